/- Loader, in plain words: readers that read just what is written (no program in sight). -/
import Derived.Test.YtibjpjpbmkdddaaLp
namespace Go.Proofs.Ytibjpjpbmkdddaa
set_option linter.unusedSimpArgs false
set_option linter.unusedVariables false
open Go.RowKit (wrap32 wrap64)

theorem ebind {ε α β γ : Type} (x : Except ε α) (f : α → Except ε β) (g : β → Except ε γ) : (x.bind f).bind g = x.bind fun a => (f a).bind g := by cases x <;> rfl
theorem fours2 (a b : Int) : fours [a, b] = fours [a] ++ fours [b] := by simp [fours]
theorem fours3 (a b c : Int) : fours [a, b, c] = fours [a] ++ (fours [b] ++ fours [c]) := by simp [fours]
/-- Four bytes that stand there, as a reading. -/
theorem good_mark (m : List UInt8) (hm : m.length = 4) : Good (fun R => (R.mark m).bind fun R' => .ok ((), R')) (fun _ => m) (fun _ => True) where
  full := by
    rintro b pos v y hpos _ hd
    obtain ⟨l1, l2⟩ := drop_len hpos hd
    rw [hm] at l1 l2
    obtain ⟨a1, a2⟩ := take_full l1
    have a1' : (Rd.mk b pos 0 0).after 4 = ⟨b, pos + 4, 0, 0⟩ := a1
    have a2' : (Rd.mk b pos 0 0).got 4 = (b.drop pos).take 4 := a2
    have hg : (Rd.mk b pos 0 0).got 4 = m := by rw [a2', hd, List.take_append_of_le_length (by omega), List.take_of_length_le (by omega)]
    simp only [Rd.mark]
    rw [a1', if_neg (by simp), if_pos hg, hm]
    rfl
  cut := by
    rintro b pos v z hpos _ hd hz
    have hl := congrArg List.length hd
    rw [hm, List.length_append, List.length_drop] at hl
    have hz1 : 0 < z.length := by cases z with
      | nil => exact absurd rfl hz
      | cons _ _ => simp
    have a1' : (Rd.mk b pos 0 0).after 4 = ⟨b, pos, 2, b.length⟩ := take_short (k := 4) (by omega)
    simp only [Rd.mark]
    rw [a1', if_pos (by simp)]
    rfl
  sound := by
    intro b pos v R hpos h
    simp only [Rd.mark] at h
    by_cases hs : pos + 4 ≤ b.length
    · obtain ⟨a1, a2⟩ := take_full hs
      have a1' : (Rd.mk b pos 0 0).after 4 = ⟨b, pos + 4, 0, 0⟩ := a1
      have a2' : (Rd.mk b pos 0 0).got 4 = (b.drop pos).take 4 := a2
      rw [a1', if_neg (by simp)] at h
      split at h
      · rename_i hg
        simp only [Except.bind] at h
        injection h with h
        injection h with h1 h2
        subst h2
        refine ⟨trivial, (b.drop pos).drop 4, ?_, ?_⟩
        · rw [← hg, a2', List.take_append_drop]
        · rw [hm]
      · cases h
    · have a1' : (Rd.mk b pos 0 0).after 4 = ⟨b, pos, 2, b.length⟩ := take_short (k := 4) (by omega)
      rw [a1', if_pos (by simp)] at h
      cases h
  bad := by
    intro b pos e' a hpos h
    simp only [Rd.mark] at h
    by_cases hs : pos + 4 ≤ b.length
    · obtain ⟨a1, a2⟩ := take_full hs
      have a1' : (Rd.mk b pos 0 0).after 4 = ⟨b, pos + 4, 0, 0⟩ := a1
      rw [a1', if_neg (by simp)] at h
      split at h
      · cases h
      · simp only [Except.bind] at h
        injection h with h
        injection h with h1 h2
        subst h1 h2
        exact ⟨by decide, by decide, Int.natCast_nonneg _⟩
    · have a1' : (Rd.mk b pos 0 0).after 4 = ⟨b, pos, 2, b.length⟩ := take_short (k := 4) (by omega)
      rw [a1', if_pos (by simp)] at h
      simp only [Except.bind] at h
      injection h with h
      injection h with h1 h2
      subst h1 h2
      exact ⟨by show (2 : Int) ≠ 0; decide, by show (0 : Int) ≤ (b.length : Int); omega, Int.le_refl _⟩
/-- A reading whose value is looked at behind it. -/
theorem Good.filter {α : Type} {p : Rd → Except (Int × Int) (α × Rd)} {encT : α → List UInt8} {okT : α → Prop} (h : Good p encT okT) (P : α → Bool) (e0 : Int) (he : e0 ≠ 0) :
    Good (fun R => match p R with | .error x => .error x | .ok (v, R') => if P v = true then .ok (v, R') else .error (e0, R.pos)) encT (fun v => okT v ∧ P v = true) where
  full := by
    rintro b pos v y hpos ⟨h1, h2⟩ hd
    rw [h.full b pos v y hpos h1 hd]
    simp only []
    rw [if_pos h2]
  cut := by
    rintro b pos v z hpos ⟨h1, h2⟩ hd hz
    rw [h.cut b pos v z hpos h1 hd hz]
  sound := by
    intro b pos v R hpos hx
    rcases hp : p ⟨b, pos, 0, 0⟩ with x | ⟨n, R1⟩
    · rw [hp] at hx; cases hx
    · rw [hp] at hx
      simp only [] at hx
      split at hx
      · rename_i hlt
        injection hx with hx
        injection hx with h1 h2
        subst h1 h2
        obtain ⟨a1, a2⟩ := h.sound b pos n R1 hpos hp
        exact ⟨⟨a1, hlt⟩, a2⟩
      · cases hx
  bad := by
    intro b pos e a hpos hx
    rcases hp : p ⟨b, pos, 0, 0⟩ with ⟨e', a'⟩ | ⟨n, R1⟩
    · rw [hp] at hx
      injection hx with hx
      injection hx with h1 h2
      subst h1 h2
      exact h.bad b pos _ _ hpos hp
    · rw [hp] at hx
      simp only [] at hx
      split at hx
      · cases hx
      · injection hx with hx
        injection hx with h1 h2
        subst h1 h2
        exact ⟨he, by show (0 : Int) ≤ (pos : Int); omega, by show (pos : Int) ≤ _; omega⟩

/-! Edges. -/
def edgeB (k : Int) (e : Ed) : List UInt8 := if k = 1 then fours [e.1, e.2.1, e.2.2] else fours [e.1, e.2.1]
def okE (N k : Int) (e : Ed) : Prop := (0 ≤ e.1 ∧ e.1 ≤ N - 1) ∧ (0 ≤ e.2.1 ∧ e.2.1 ≤ N - 1) ∧ (if k = 1 then 0 ≤ e.2.2 ∧ e.2.2 ≤ 2147483647 else e.2.2 = 1)
theorem good_edge (N k : Int) (hN : N ≤ 4096) : Good (fun R => R.edge N k) (edgeB k) (okE N k) := by
  have g4 := good4 (N - 1) 3 (by decide) (by omega)
  by_cases hk : k = 1
  · subst hk
    refine ((g4.bind (q := fun a R => (R.rd 4 0 (N - 1) 3).bind fun b => (b.2.rd 4 0 2147483647 7).bind fun c => .ok ((a, b.1, c.1), c.2)) (β := Ed) (fun u => u.1)
      (encQ := fun a u => fours [u.2.1] ++ (fours [u.2.2] ++ [])) (okQ := fun a u => (0 ≤ u.2.1 ∧ u.2.1 ≤ N - 1) ∧ ((0 ≤ u.2.2 ∧ u.2.2 ≤ 2147483647) ∧ u = (a, u.2.1, u.2.2)))
      (fun a _ => g4.bind (q := fun b R => (R.rd 4 0 2147483647 7).bind fun c => .ok ((a, b, c.1), c.2)) (fun u : Ed => u.2.1)
        (encQ := fun b u => fours [u.2.2] ++ []) (okQ := fun b u => (0 ≤ u.2.2 ∧ u.2.2 ≤ 2147483647) ∧ u = (a, b, u.2.2))
        (fun b _ => (good4 2147483647 7 (by decide) (by decide)).bind (q := fun c R => .ok ((a, b, c), R)) (fun u : Ed => u.2.2) (encQ := fun _ _ => []) (okQ := fun c u => u = (a, b, c)) (fun c _ => Good.pure _) (fun c u _ hu => by rw [hu]))
        (fun b u _ hu => by rw [hu.2]))
      (fun a u _ hu => by rw [hu.2.2]))).congr (fun R => ?_) (fun u _ => ?_) (fun u => ?_)
    · simp only [Rd.edge, if_true]
    · simp [edgeB, fours3]
    · simp only [okE, if_true]
      constructor
      · rintro ⟨h1, h2, h3, _⟩; exact ⟨h1, h2, h3⟩
      · rintro ⟨h1, h2, h3⟩; exact ⟨h1, h2, h3, by first | exact trivial | rfl⟩
  · refine ((g4.bind (q := fun a R => (R.rd 4 0 (N - 1) 3).bind fun b => .ok ((a, b.1, 1), b.2)) (β := Ed) (fun u => u.1)
      (encQ := fun a u => fours [u.2.1] ++ []) (okQ := fun a u => (0 ≤ u.2.1 ∧ u.2.1 ≤ N - 1) ∧ u = (a, u.2.1, 1))
      (fun a _ => g4.bind (q := fun b R => .ok ((a, b, 1), R)) (fun u : Ed => u.2.1) (encQ := fun _ _ => []) (okQ := fun b u => u = (a, b, 1)) (fun b _ => Good.pure _) (fun b u _ hu => by rw [hu]))
      (fun a u _ hu => by rw [hu.2]))).congr (fun R => ?_) (fun u _ => ?_) (fun u => ?_)
    · simp only [Rd.edge, if_neg hk]
    · simp [edgeB, fours2, hk]
    · simp only [okE, if_neg hk]
      constructor
      · rintro ⟨h1, h2, h3⟩; exact ⟨h1, h2, by rw [h3]⟩
      · rintro ⟨h1, h2, h3⟩; exact ⟨h1, h2, by obtain ⟨x, y, z⟩ := u; simp at h3; subst h3; rfl⟩
/-- Edges that are read, one ahead of the others. -/
def Rd.edgesR (N k : Int) : Nat → Rd → Except (Int × Int) (List Ed × Rd)
  | 0, R => .ok ([], R)
  | i + 1, R => (R.edge N k).bind fun x => (Rd.edgesR N k i x.2).bind fun y => .ok (x.1 :: y.1, y.2)
theorem edges_R (N k : Int) : ∀ (i : Nat) (R : Rd) (acc : List Ed), Rd.edges N k i R acc = (Rd.edgesR N k i R).bind fun y => .ok (acc ++ y.1, y.2)
  | 0, R, acc => by simp [Rd.edges, Rd.edgesR, Except.bind]
  | i + 1, R, acc => by
    simp only [Rd.edges, Rd.edgesR]
    rw [ebind]
    congr 1
    funext x
    rw [edges_R N k i, ebind]
    congr 1
    funext y
    simp [Except.bind]
theorem good_edgesR (N k : Int) (hN : N ≤ 4096) : ∀ i : Nat, Good (fun R => Rd.edgesR N k i R) (fun l => l.flatMap (edgeB k)) (fun l => l.length = i ∧ ∀ e ∈ l, okE N k e)
  | 0 => (Good.pure ([] : List Ed)).congr (fun _ => rfl) (fun v hv => by subst hv; rfl) (fun v => by
      constructor
      · rintro rfl; exact ⟨rfl, by simp⟩
      · rintro ⟨h, _⟩; exact List.eq_nil_of_length_eq_zero h)
  | i + 1 => by
    refine ((good_edge N k hN).bind (q := fun x R => (Rd.edgesR N k i R).bind fun y => .ok (x :: y.1, y.2)) (β := List Ed) (fun u => u.headD (0, 0, 0)) (encQ := fun x u => u.tail.flatMap (edgeB k))
      (okQ := fun x u => u = x :: u.tail ∧ (u.tail.length = i ∧ ∀ e ∈ u.tail, okE N k e))
      (fun x _ => ((good_edgesR N k hN i).bind (q := fun y R => .ok (x :: y, R)) (fun u : List Ed => u.tail) (encQ := fun _ _ => []) (okQ := fun y u => u = x :: y) (fun y _ => Good.pure _) (fun y u _ hu => by rw [hu]; rfl)).congr
        (fun _ => rfl) (fun u _ => by simp) (fun u => ⟨fun ⟨h1, h2⟩ => ⟨h2, h1⟩, fun ⟨h1, h2⟩ => ⟨h2, h1⟩⟩))
      (fun x u _ hu => by rw [hu.1]; rfl)).congr (fun _ => rfl) (fun u hu => ?_) (fun u => ?_)
    · rw [hu.2.1]
      simp
    · constructor
      · rintro ⟨h1, h2, h3, h4⟩
        rw [h2] at h1 ⊢
        refine ⟨by simp [h3], fun e he => ?_⟩
        rcases List.mem_cons.1 he with rfl | he
        · exact h1
        · exact h4 e he
      · rintro ⟨h1, h2⟩
        match u, h1 with
        | x :: u, h1 => exact ⟨h2 x (by simp), rfl, by simpa using h1, fun e he => h2 e (by simp at he; simp [he])⟩
/-! All of a graph. -/
abbrev Raw := Int × Int × List Ed
def Rd.graphR (R : Rd) : Except (Int × Int) (Raw × Rd) :=
  ((R.mark frt1).bind fun R' => .ok ((), R')).bind fun x => (x.2.rd 1 0 1 8).bind fun k => (k.2.rd 4 0 4096 5).bind fun n => (n.2.rd 4 0 65536 5).bind fun m => (Rd.edgesR n.1 k.1 m.1.toNat m.2).bind fun e => .ok ((k.1, n.1, e.1), e.2)
theorem graph_R (R : Rd) : R.graphE = R.graphR.bind fun e => if e.2.atEnd = true then .ok e else .error (4, e.2.pos) := by
  unfold Rd.graphE Rd.graphR
  rw [ebind, ebind]
  congr 1; funext R1
  simp only [Except.bind]
  cases R1.rd 1 0 1 8 with
  | error => rfl
  | ok k =>
    simp only []
    cases k.2.rd 4 0 4096 5 with
    | error => rfl
    | ok n =>
      simp only []
      cases n.2.rd 4 0 65536 5 with
      | error => rfl
      | ok m =>
        simp only [edges_R]
        cases Rd.edgesR n.1 k.1 m.1.toNat m.2 with
        | error => rfl
        | ok e => simp only [Except.bind, List.nil_append]
def rawB (u : Raw) : List UInt8 := frt1 ++ ([b8 u.1] ++ (fours [u.2.1] ++ (fours [(u.2.2.length : Int)] ++ u.2.2.flatMap (edgeB u.1))))
def okRaw (u : Raw) : Prop := (0 ≤ u.1 ∧ u.1 ≤ 1) ∧ (0 ≤ u.2.1 ∧ u.2.1 ≤ 4096) ∧ (0 ≤ (u.2.2.length : Int) ∧ (u.2.2.length : Int) ≤ 65536) ∧ ∀ e ∈ u.2.2, okE u.2.1 u.1 e
def H5 (k n m : Int) (R : Rd) : Except (Int × Int) (Raw × Rd) := (Rd.edgesR n k m.toNat R).bind fun e => .ok ((k, n, e.1), e.2)
def H4 (k n : Int) (R : Rd) : Except (Int × Int) (Raw × Rd) := (R.rd 4 0 65536 5).bind fun m => H5 k n m.1 m.2
def H3 (k : Int) (R : Rd) : Except (Int × Int) (Raw × Rd) := (R.rd 4 0 4096 5).bind fun n => H4 k n.1 n.2
def H2 (R : Rd) : Except (Int × Int) (Raw × Rd) := (R.rd 1 0 1 8).bind fun k => H3 k.1 k.2
theorem good_H5 (k n m : Int) (hn : n ≤ 4096) : Good (H5 k n m) (fun u => u.2.2.flatMap (edgeB k)) (fun u => (u.1 = k ∧ u.2.1 = n) ∧ (u.2.2.length = m.toNat ∧ ∀ e ∈ u.2.2, okE n k e)) :=
  ((good_edgesR n k hn m.toNat).bind (q := fun e R => .ok ((k, n, e), R)) (fun u : Raw => u.2.2) (encQ := fun _ _ => []) (okQ := fun e u => u = (k, n, e)) (fun e _ => Good.pure _) (fun e u _ hu => by rw [hu])).congr
    (fun _ => rfl) (fun u _ => by simp) (fun u => by
      constructor
      · rintro ⟨h1, h2⟩; rw [h2] at h1 ⊢; exact ⟨⟨rfl, rfl⟩, h1⟩
      · rintro ⟨⟨h1, h2⟩, h3⟩; refine ⟨h3, ?_⟩; obtain ⟨a, b, c⟩ := u; simp at h1 h2; subst h1 h2; rfl)
theorem good_H4 (k n : Int) (hn : n ≤ 4096) : Good (H4 k n) (fun u => fours [(u.2.2.length : Int)] ++ u.2.2.flatMap (edgeB k)) (fun u => (u.1 = k ∧ u.2.1 = n) ∧ ((0 ≤ (u.2.2.length : Int) ∧ (u.2.2.length : Int) ≤ 65536) ∧ ∀ e ∈ u.2.2, okE n k e)) :=
  ((good4 65536 5 (by decide) (by decide)).bind (q := H5 k n) (fun u : Raw => (u.2.2.length : Int)) (fun m _ => good_H5 k n m hn) (fun m u hm hu => by have := hu.2.1; omega)).congr
    (fun _ => rfl) (fun u _ => rfl) (fun u => by
      constructor
      · rintro ⟨h1, h2, h3, h4⟩; exact ⟨h2, h1, h4⟩
      · rintro ⟨h1, h2, h3⟩; exact ⟨h2, h1, by simp, h3⟩)
theorem good_H3 (k : Int) : Good (H3 k) (fun u => fours [u.2.1] ++ (fours [(u.2.2.length : Int)] ++ u.2.2.flatMap (edgeB k))) (fun u => u.1 = k ∧ ((0 ≤ u.2.1 ∧ u.2.1 ≤ 4096) ∧ ((0 ≤ (u.2.2.length : Int) ∧ (u.2.2.length : Int) ≤ 65536) ∧ ∀ e ∈ u.2.2, okE u.2.1 k e))) :=
  ((good4 4096 5 (by decide) (by decide)).bind (q := H4 k) (fun u : Raw => u.2.1) (fun n hn => good_H4 k n hn.2) (fun n u hn hu => hu.1.2)).congr
    (fun _ => rfl) (fun u _ => rfl) (fun u => by
      constructor
      · rintro ⟨h1, ⟨h2, h3⟩, h4⟩; exact ⟨h2, h1, h4⟩
      · rintro ⟨h1, h2, h3⟩; exact ⟨h2, ⟨h1, rfl⟩, h3⟩)
theorem good_graph : Good Rd.graphR rawB okRaw :=
  ((good_mark frt1 rfl).bind (q := fun _ R => H2 R) (β := Raw) (fun _ => ()) (encQ := fun _ u => [b8 u.1] ++ (fours [u.2.1] ++ (fours [(u.2.2.length : Int)] ++ u.2.2.flatMap (edgeB u.1)))) (okQ := fun _ u => okRaw u)
    (fun _ _ => ((good1 0 1 8 (by decide) (by decide) (by decide)).bind (q := H3) (fun u : Raw => u.1) (fun k _ => good_H3 k) (fun k u _ hu => hu.1)).congr (fun _ => rfl) (fun u _ => rfl) (fun u => by
      constructor
      · rintro ⟨h1, h2, h3⟩; exact ⟨h1, h3⟩
      · rintro ⟨h1, h2⟩; exact ⟨h1, rfl, h2⟩))
    (fun _ _ _ _ => rfl)).congr (fun _ => rfl) (fun u _ => rfl) (fun u => ⟨fun h => h.2, fun h => ⟨trivial, h⟩⟩)
end Go.Proofs.Ytibjpjpbmkdddaa
