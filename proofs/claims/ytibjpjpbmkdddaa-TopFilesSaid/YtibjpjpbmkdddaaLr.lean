/- Loader, in plain words: matrices; what decoding comes to (no program in sight). -/
import Derived.Test.YtibjpjpbmkdddaaLq
namespace Go.Proofs.Ytibjpjpbmkdddaa
set_option linter.unusedSimpArgs false
set_option linter.unusedVariables false
open Go.RowKit (wrap32 wrap64)

/-! Triples. -/
def Rd.trip0 (m c : Int) (R : Rd) : Except (Int × Int) (Ed × Rd) := (R.rd 4 0 (m - 1) 3).bind fun a => (a.2.rd 4 0 (c - 1) 3).bind fun b => b.2.word.bind fun z => .ok ((a.1, b.1, z.1), z.2)
def okT0 (m c : Int) (t : Ed) : Prop := (0 ≤ t.1 ∧ t.1 ≤ m - 1) ∧ (0 ≤ t.2.1 ∧ t.2.1 ≤ c - 1) ∧ In64' t.2.2
theorem good_trip0 (m c : Int) (hm : m ≤ 4096) (hc : c ≤ 4096) : Good (Rd.trip0 m c) tripB (okT0 m c) := by
  refine ((good4 (m - 1) 3 (by decide) (by omega)).bind (q := fun a R => (R.rd 4 0 (c - 1) 3).bind fun b => b.2.word.bind fun z => .ok ((a, b.1, z.1), z.2)) (β := Ed) (fun u => u.1)
      (encQ := fun a u => fours [u.2.1] ++ (eights [u.2.2] ++ [])) (okQ := fun a u => (0 ≤ u.2.1 ∧ u.2.1 ≤ c - 1) ∧ (In64' u.2.2 ∧ u = (a, u.2.1, u.2.2)))
      (fun a _ => (good4 (c - 1) 3 (by decide) (by omega)).bind (q := fun b R => R.word.bind fun z => .ok ((a, b, z.1), z.2)) (fun u : Ed => u.2.1)
        (encQ := fun b u => eights [u.2.2] ++ []) (okQ := fun b u => In64' u.2.2 ∧ u = (a, b, u.2.2))
        (fun b _ => good8.bind (q := fun z R => .ok ((a, b, z), R)) (fun u : Ed => u.2.2) (encQ := fun _ _ => []) (okQ := fun z u => u = (a, b, z)) (fun z _ => Good.pure _) (fun z u _ hu => by rw [hu]))
        (fun b u _ hu => by rw [hu.2]))
      (fun a u _ hu => by rw [hu.2.2])).congr (fun R => rfl) (fun u _ => ?_) (fun u => ?_)
  · simp [tripB, fours2]
  · constructor
    · rintro ⟨h1, h2, h3, _⟩; exact ⟨h1, h2, h3⟩
    · rintro ⟨h1, h2, h3⟩; exact ⟨h1, h2, h3, by first | exact trivial | rfl⟩
def aheadB (last t : Ed) : Bool := keyLt (last.1, last.2.1) (t.1, t.2.1)
theorem trip_0 (m c : Int) (last : Ed) (R : Rd) : R.trip m c last = match Rd.trip0 m c R with | .error x => .error x | .ok (v, R') => if aheadB last v = true then .ok (v, R') else .error (6, R.pos) := by
  unfold Rd.trip Rd.trip0
  cases R.rd 4 0 (m - 1) 3 with
  | error => rfl
  | ok a =>
    simp only [Except.bind]
    cases a.2.rd 4 0 (c - 1) 3 with
    | error => rfl
    | ok b =>
      simp only [Rd.word]
      by_cases h : (b.2.after 8).e ≠ 0
      · rw [if_pos h, if_pos h]
      · rw [if_neg h, if_neg h]
        simp only [aheadB]
        rfl
theorem good_trip (m c : Int) (last : Ed) (hm : m ≤ 4096) (hc : c ≤ 4096) : Good (fun R => R.trip m c last) tripB (fun t => okT0 m c t ∧ aheadB last t = true) :=
  ((good_trip0 m c hm hc).filter (aheadB last) 6 (by decide)).congr (fun R => by rw [trip_0]; cases Rd.trip0 m c R <;> rfl) (fun _ _ => rfl) (fun _ => Iff.rfl)
def okRun (m c : Int) : Ed → List Ed → Prop
  | _, [] => True
  | last, t :: l => (okT0 m c t ∧ aheadB last t = true) ∧ okRun m c t l
def Rd.tripsR (m c : Int) : Nat → Ed → Rd → Except (Int × Int) (List Ed × Rd)
  | 0, _, R => .ok ([], R)
  | i + 1, last, R => (R.trip m c last).bind fun x => (Rd.tripsR m c i x.1 x.2).bind fun y => .ok (x.1 :: y.1, y.2)
theorem trips_R (m c : Int) : ∀ (i : Nat) (last : Ed) (R : Rd) (acc : List Ed), Rd.trips m c i last R acc = (Rd.tripsR m c i last R).bind fun y => .ok (acc ++ y.1, y.2)
  | 0, last, R, acc => by simp [Rd.trips, Rd.tripsR, Except.bind]
  | i + 1, last, R, acc => by
    simp only [Rd.trips, Rd.tripsR]
    rw [ebind]
    congr 1
    funext x
    rw [trips_R m c i, ebind]
    congr 1
    funext y
    simp [Except.bind]
theorem good_tripsR (m c : Int) (hm : m ≤ 4096) (hc : c ≤ 4096) : ∀ (i : Nat) (last : Ed), Good (fun R => Rd.tripsR m c i last R) (fun l => l.flatMap tripB) (fun l => l.length = i ∧ okRun m c last l)
  | 0, last => (Good.pure ([] : List Ed)).congr (fun _ => rfl) (fun v hv => by subst hv; rfl) (fun v => by
      constructor
      · rintro rfl; exact ⟨rfl, trivial⟩
      · rintro ⟨h, _⟩; exact List.eq_nil_of_length_eq_zero h)
  | i + 1, last => by
    refine ((good_trip m c last hm hc).bind (q := fun x R => (Rd.tripsR m c i x R).bind fun y => .ok (x :: y.1, y.2)) (β := List Ed) (fun u => u.headD (0, 0, 0)) (encQ := fun x u => u.tail.flatMap tripB)
      (okQ := fun x u => u = x :: u.tail ∧ (u.tail.length = i ∧ okRun m c x u.tail))
      (fun x _ => ((good_tripsR m c hm hc i x).bind (q := fun y R => .ok (x :: y, R)) (fun u : List Ed => u.tail) (encQ := fun _ _ => []) (okQ := fun y u => u = x :: y) (fun y _ => Good.pure _) (fun y u _ hu => by rw [hu]; rfl)).congr
        (fun _ => rfl) (fun u _ => by simp) (fun u => ⟨fun ⟨h1, h2⟩ => ⟨h2, h1⟩, fun ⟨h1, h2⟩ => ⟨h2, h1⟩⟩))
      (fun x u _ hu => by rw [hu.1]; rfl)).congr (fun _ => rfl) (fun u hu => ?_) (fun u => ?_)
    · rw [hu.2.1]
      simp
    · constructor
      · rintro ⟨h1, h2, h3, h4⟩
        have hd : u.headD (0, 0, 0) :: u.tail = u := h2.symm
        rw [← hd]
        exact ⟨by simp [h3], h1, h4⟩
      · rintro ⟨h1, h2⟩
        match u, h1, h2 with
        | x :: u, h1, h2 => exact ⟨h2.1, rfl, by simpa using h1, h2.2⟩
/-! All of a matrix. -/
def Rd.matR (R : Rd) : Except (Int × Int) (Raw × Rd) :=
  ((R.mark frm1).bind fun R' => .ok ((), R')).bind fun x => (x.2.rd 4 0 4096 5).bind fun m => (m.2.rd 4 0 4096 5).bind fun c => (c.2.rd 4 0 65536 5).bind fun n => (Rd.tripsR m.1 c.1 n.1.toNat (-1, 0, 0) n.2).bind fun e => .ok ((m.1, c.1, e.1), e.2)
theorem mat_R (R : Rd) : R.matE = R.matR.bind fun e => if e.2.atEnd = true then .ok e else .error (4, e.2.pos) := by
  unfold Rd.matE Rd.matR
  rw [ebind, ebind]
  congr 1; funext R1
  simp only [Except.bind]
  cases R1.rd 4 0 4096 5 with
  | error => rfl
  | ok k =>
    simp only []
    cases k.2.rd 4 0 4096 5 with
    | error => rfl
    | ok n =>
      simp only []
      cases n.2.rd 4 0 65536 5 with
      | error => rfl
      | ok m =>
        simp only [trips_R]
        cases Rd.tripsR k.1 n.1 m.1.toNat (-1, 0, 0) m.2 with
        | error => rfl
        | ok e => simp only [Except.bind, List.nil_append]
def matB (u : Raw) : List UInt8 := frm1 ++ (fours [u.1] ++ (fours [u.2.1] ++ (fours [(u.2.2.length : Int)] ++ u.2.2.flatMap tripB)))
def okMat (u : Raw) : Prop := (0 ≤ u.1 ∧ u.1 ≤ 4096) ∧ (0 ≤ u.2.1 ∧ u.2.1 ≤ 4096) ∧ (0 ≤ (u.2.2.length : Int) ∧ (u.2.2.length : Int) ≤ 65536) ∧ okRun u.1 u.2.1 (-1, 0, 0) u.2.2
def M5 (k n m : Int) (R : Rd) : Except (Int × Int) (Raw × Rd) := (Rd.tripsR k n m.toNat (-1, 0, 0) R).bind fun e => .ok ((k, n, e.1), e.2)
def M4 (k n : Int) (R : Rd) : Except (Int × Int) (Raw × Rd) := (R.rd 4 0 65536 5).bind fun m => M5 k n m.1 m.2
def M3 (k : Int) (R : Rd) : Except (Int × Int) (Raw × Rd) := (R.rd 4 0 4096 5).bind fun n => M4 k n.1 n.2
def M2 (R : Rd) : Except (Int × Int) (Raw × Rd) := (R.rd 4 0 4096 5).bind fun k => M3 k.1 k.2
theorem good_M5 (k n m : Int) (hk : k ≤ 4096) (hn : n ≤ 4096) : Good (M5 k n m) (fun u => u.2.2.flatMap tripB) (fun u => (u.1 = k ∧ u.2.1 = n) ∧ (u.2.2.length = m.toNat ∧ okRun k n (-1, 0, 0) u.2.2)) :=
  ((good_tripsR k n hk hn m.toNat (-1, 0, 0)).bind (q := fun e R => .ok ((k, n, e), R)) (fun u : Raw => u.2.2) (encQ := fun _ _ => []) (okQ := fun e u => u = (k, n, e)) (fun e _ => Good.pure _) (fun e u _ hu => by rw [hu])).congr
    (fun _ => rfl) (fun u _ => by simp) (fun u => by
      constructor
      · rintro ⟨h1, h2⟩; rw [h2] at h1 ⊢; exact ⟨⟨rfl, rfl⟩, h1⟩
      · rintro ⟨⟨h1, h2⟩, h3⟩; refine ⟨h3, ?_⟩; obtain ⟨a, b, c⟩ := u; simp at h1 h2; subst h1 h2; rfl)
theorem good_M4 (k n : Int) (hk : k ≤ 4096) (hn : n ≤ 4096) : Good (M4 k n) (fun u => fours [(u.2.2.length : Int)] ++ u.2.2.flatMap tripB) (fun u => (u.1 = k ∧ u.2.1 = n) ∧ ((0 ≤ (u.2.2.length : Int) ∧ (u.2.2.length : Int) ≤ 65536) ∧ okRun k n (-1, 0, 0) u.2.2)) :=
  ((good4 65536 5 (by decide) (by decide)).bind (q := M5 k n) (fun u : Raw => (u.2.2.length : Int)) (fun m _ => good_M5 k n m hk hn) (fun m u hm hu => by have := hu.2.1; omega)).congr
    (fun _ => rfl) (fun u _ => rfl) (fun u => by
      constructor
      · rintro ⟨h1, h2, h3, h4⟩; exact ⟨h2, h1, h4⟩
      · rintro ⟨h1, h2, h3⟩; exact ⟨h2, h1, by simp, h3⟩)
theorem good_M3 (k : Int) (hk : k ≤ 4096) : Good (M3 k) (fun u => fours [u.2.1] ++ (fours [(u.2.2.length : Int)] ++ u.2.2.flatMap tripB)) (fun u => u.1 = k ∧ ((0 ≤ u.2.1 ∧ u.2.1 ≤ 4096) ∧ ((0 ≤ (u.2.2.length : Int) ∧ (u.2.2.length : Int) ≤ 65536) ∧ okRun k u.2.1 (-1, 0, 0) u.2.2))) :=
  ((good4 4096 5 (by decide) (by decide)).bind (q := M4 k) (fun u : Raw => u.2.1) (fun n hn => good_M4 k n hk hn.2) (fun n u hn hu => hu.1.2)).congr
    (fun _ => rfl) (fun u _ => rfl) (fun u => by
      constructor
      · rintro ⟨h1, ⟨h2, h3⟩, h4⟩; exact ⟨h2, h1, h4⟩
      · rintro ⟨h1, h2, h3⟩; exact ⟨h2, ⟨h1, rfl⟩, h3⟩)
theorem good_mat : Good Rd.matR matB okMat :=
  ((good_mark frm1 rfl).bind (q := fun _ R => M2 R) (β := Raw) (fun _ => ()) (encQ := fun _ u => fours [u.1] ++ (fours [u.2.1] ++ (fours [(u.2.2.length : Int)] ++ u.2.2.flatMap tripB))) (okQ := fun _ u => okMat u)
    (fun _ _ => ((good4 4096 5 (by decide) (by decide)).bind (q := M3) (fun u : Raw => u.1) (fun k hk => good_M3 k hk.2) (fun k u _ hu => hu.1)).congr (fun _ => rfl) (fun u _ => rfl) (fun u => by
      constructor
      · rintro ⟨h1, h2, h3⟩; exact ⟨h1, h3⟩
      · rintro ⟨h1, h2⟩; exact ⟨h1, rfl, h2⟩))
    (fun _ _ _ _ => rfl)).congr (fun _ => rfl) (fun u _ => rfl) (fun u => ⟨fun h => h.2, fun h => ⟨trivial, h⟩⟩)

/-! What is read to the end. -/
def endR {α : Type} (e : α × Rd) : Except (Int × Int) (α × Rd) := if e.2.atEnd = true then .ok e else .error (4, e.2.pos)
section
variable {α : Type} {p : Rd → Except (Int × Int) (α × Rd)} {encT : α → List UInt8} {okT : α → Prop}
theorem Good.efull (h : Good p encT okT) {v : α} (hv : okT v) : (p ⟨encT v, 0, 0, 0⟩).bind endR = .ok (v, ⟨encT v, (encT v).length, 0, 0⟩) := by
  rw [h.full (encT v) 0 v [] (Nat.zero_le _) hv (by simp)]
  simp [Except.bind, endR, Rd.atEnd]
theorem Good.emore (h : Good p encT okT) {v : α} (hv : okT v) {more : List UInt8} (hm : more ≠ []) : (p ⟨encT v ++ more, 0, 0, 0⟩).bind endR = .error (4, (encT v).length) := by
  rw [h.full (encT v ++ more) 0 v more (Nat.zero_le _) hv (by simp)]
  have : more.length ≠ 0 := fun h0 => hm (List.eq_nil_of_length_eq_zero h0)
  simp [Except.bind, endR, Rd.atEnd, hm]
theorem Good.ecut (h : Good p encT okT) {v : α} (hv : okT v) {k : Nat} (hk : k < (encT v).length) : (p ⟨(encT v).take k, 0, 0, 0⟩).bind endR = .error (2, k) := by
  rw [h.cut ((encT v).take k) 0 v ((encT v).drop k) (Nat.zero_le _) hv (by simp) (by
    intro h0
    have := congrArg List.length h0
    simp at this
    omega)]
  simp only [Except.bind, List.length_take]
  rw [Nat.min_eq_left (Nat.le_of_lt hk)]
theorem Good.esound (h : Good p encT okT) {b : List UInt8} {v : α} {R : Rd} (hx : (p ⟨b, 0, 0, 0⟩).bind endR = .ok (v, R)) : okT v ∧ encT v = b := by
  rcases hp : p ⟨b, 0, 0, 0⟩ with x | ⟨u, R1⟩
  · rw [hp] at hx; cases hx
  · rw [hp] at hx
    simp only [Except.bind] at hx
    obtain ⟨h1, y, h2, rfl⟩ := h.sound b 0 u R1 (Nat.zero_le _) hp
    unfold endR at hx
    split at hx
    · rename_i ha
      injection hx with hx
      injection hx with hx1 hx2
      subst hx1
      simp [Rd.atEnd] at ha
      rw [List.drop_zero] at h2
      have hy : y = [] := by
        have := congrArg List.length h2
        rw [List.length_append] at this
        exact List.eq_nil_of_length_eq_zero (by omega)
      subst hy
      exact ⟨h1, by simpa using h2.symm⟩
    · cases hx
theorem Good.ebad (h : Good p encT okT) {b : List UInt8} {e a : Int} (hx : (p ⟨b, 0, 0, 0⟩).bind endR = .error (e, a)) : e ≠ 0 ∧ 0 ≤ a ∧ a ≤ b.length := by
  rcases hp : p ⟨b, 0, 0, 0⟩ with ⟨e', a'⟩ | ⟨u, R1⟩
  · rw [hp] at hx
    injection hx with hx
    injection hx with h1 h2
    subst h1 h2
    exact h.bad b 0 _ _ (Nat.zero_le _) hp
  · rw [hp] at hx
    simp only [Except.bind] at hx
    obtain ⟨h1, y, h2, rfl⟩ := h.sound b 0 u R1 (Nat.zero_le _) hp
    obtain ⟨l1, _⟩ := drop_len (Nat.zero_le _) h2
    unfold endR at hx
    split at hx
    · cases hx
    · injection hx with hx
      injection hx with h1 h2
      subst h1 h2
      refine ⟨by decide, ?_, ?_⟩
      · show (0 : Int) ≤ ((0 + (encT u).length : Nat) : Int); omega
      · show ((0 + (encT u).length : Nat) : Int) ≤ _; omega
end
theorem graph_E (b : List UInt8) : (Rd.mk b 0 0 0).graphE = (Rd.graphR ⟨b, 0, 0, 0⟩).bind endR := graph_R _
theorem mat_E (b : List UInt8) : (Rd.mk b 0 0 0).matE = (Rd.matR ⟨b, 0, 0, 0⟩).bind endR := mat_R _
/-- What bytes are as a graph. -/
def decG (b : List UInt8) : Except (Int × Int) (Int × List Ed) := (Rd.mk b 0 0 0).graphE.bind fun x => .ok (x.1.2.1, canonP x.1.2.2)
/-- What bytes are as a matrix. -/
def decM (b : List UInt8) : Except (Int × Int) Raw := (Rd.mk b 0 0 0).matE.bind fun x => .ok x.1
end Go.Proofs.Ytibjpjpbmkdddaa
