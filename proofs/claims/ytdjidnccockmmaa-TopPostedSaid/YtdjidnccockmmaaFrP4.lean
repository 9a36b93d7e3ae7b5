/- Frames, in plain words: all of a frame: what is written is read as it was, cut bytes are short, more bytes are refused (no program in sight). -/
import Derived.Test.YtdjidnccockmmaaFrP3
namespace Go.Proofs.Ytdjidnccockmmaa
set_option linter.unusedSimpArgs false
set_option linter.unusedVariables false
open Go.RowKit (wrap32 wrap64)
set_option maxHeartbeats 1000000

def L6 (F : Fr) (n : Int) (R : Rd) : Except (Int × Int) (Fr × Rd) := (Rd.trips n.toNat R []).bind fun h => .ok ({ F with trips := h.1 }, h.2)
def L5 (F : Fr) (R : Rd) : Except (Int × Int) (Fr × Rd) := (R.rd 4 0 65536 5).bind fun f => L6 F f.1 f.2
def L4 (F : Fr) (n : Int) (R : Rd) : Except (Int × Int) (Fr × Rd) := (Rd.sums n.toNat (-1) R []).bind fun e => L5 { F with sums := e.1 } e.2
def L3 (F : Fr) (R : Rd) : Except (Int × Int) (Fr × Rd) := (R.rd 4 0 4096 5).bind fun d => L4 F d.1 d.2
def L2 (F : Fr) (n : Int) (R : Rd) : Except (Int × Int) (Fr × Rd) := (Rd.items F.vn n.toNat (-1) R []).bind fun c => L3 { F with items := c.1 } c.2
def L1 (F : Fr) (R : Rd) : Except (Int × Int) (Fr × Rd) := (R.rd 4 0 F.vn 5).bind fun b => L2 F b.1 b.2
def L0 (F : Fr) (R : Rd) : Except (Int × Int) (Fr × Rd) := (R.rd 4 0 4096 5).bind fun a => L1 { F with vn := a.1 } a.2
theorem lists_L (F : Fr) (R : Rd) : Rd.lists F R = (L0 F R).bind fun x => Rd.end7 x.1 x.2 := by
  simp only [Rd.lists, Rd.lists1, Rd.lists2, Rd.lists3, Rd.lists4, Rd.lists5, Rd.lists6, L0, L1, L2, L3, L4, L5, L6, ebind]
  rfl

def okT (l : List (Int × Int × Int)) : Prop := l.length ≤ 65536 ∧ (∀ r ∈ l, (0 ≤ r.1 ∧ r.1 ≤ 4095) ∧ (0 ≤ r.2.1 ∧ r.2.1 ≤ 4095) ∧ In64' r.2.2)
def encT (l : List (Int × Int × Int)) : List UInt8 := fours [(l.length : Int)] ++ l.flatMap tripB
theorem good_L6 (F : Fr) (n : Int) : Good (L6 F n) (fun u => u.trips.flatMap tripB) (fun u => u = { F with trips := u.trips } ∧ okTrips n.toNat [] u.trips) :=
  ((good_trips n.toNat []).bind (q := fun h R => .ok ({ F with trips := h }, R)) (fun u : Fr => u.trips) (encQ := fun _ _ => []) (okQ := fun h u => u = { F with trips := h }) (fun h _ => Good.pure _) (fun h u _ hu => by rw [hu])).congr
    (fun _ => rfl) (fun u _ => by simp [tailOf]) (fun u => ⟨fun ⟨a, b⟩ => ⟨b, a⟩, fun ⟨a, b⟩ => ⟨b, a⟩⟩)
theorem okTrips_nil {k : Nat} {u : List (Int × Int × Int)} : okTrips k [] u ↔ u.length = k ∧ (∀ r ∈ u, (0 ≤ r.1 ∧ r.1 ≤ 4095) ∧ (0 ≤ r.2.1 ∧ r.2.1 ≤ 4095) ∧ In64' r.2.2) := by
  constructor
  · rintro ⟨l, h, h1, h2⟩; simp at h; subst h; exact ⟨h1, h2⟩
  · rintro ⟨h1, h2⟩; exact ⟨u, by simp, h1, h2⟩
theorem okSums_nil {k : Nat} {last : Int} {u : List (Int × Int × Nat)} : okSums k last [] u ↔ u.length = k ∧ risesS last u = true ∧ (∀ r ∈ u, (0 ≤ r.1 ∧ r.1 ≤ 4095) ∧ In64' r.2.1 ∧ Lt64 r.2.2) := by
  constructor
  · rintro ⟨l, h, h1, h2⟩; simp at h; subst h; exact ⟨h1, h2⟩
  · rintro ⟨h1, h2⟩; exact ⟨u, by simp, h1, h2⟩
theorem okItems_nil {vn : Int} {k : Nat} {last : Int} {u : List (Int × Int)} : okItems vn k last [] u ↔ u.length = k ∧ risesIn vn last u = true ∧ (∀ r ∈ u, 0 ≤ r.1 ∧ In64' r.2) := by
  constructor
  · rintro ⟨l, h, h1, h2⟩; simp at h; subst h; exact ⟨h1, h2⟩
  · rintro ⟨h1, h2⟩; exact ⟨u, by simp, h1, h2⟩
theorem good_L5 (F : Fr) : Good (L5 F) (fun u => encT u.trips) (fun u => u = { F with trips := u.trips } ∧ okT u.trips) :=
  ((good4 65536 5 (by decide) (by decide)).bind (q := L6 F) (fun u : Fr => (u.trips.length : Int)) (fun n _ => good_L6 F n) (fun n u hn hu => by have := (okTrips_nil.1 hu.2).1; omega)).congr
    (fun _ => rfl) (fun u _ => rfl) (fun u => by
      constructor
      · rintro ⟨⟨h1, h2⟩, h3, h4⟩; exact ⟨h3, by omega, (okTrips_nil.1 h4).2⟩
      · rintro ⟨h1, h2, h3⟩; exact ⟨⟨by omega, by omega⟩, h1, okTrips_nil.2 ⟨by omega, h3⟩⟩)
def okS (l : List (Int × Int × Nat)) : Prop := l.length ≤ 4096 ∧ risesS (-1) l = true ∧ (∀ r ∈ l, (0 ≤ r.1 ∧ r.1 ≤ 4095) ∧ In64' r.2.1 ∧ Lt64 r.2.2)
def encS (l : List (Int × Int × Nat)) : List UInt8 := fours [(l.length : Int)] ++ l.flatMap sumB
theorem good_L4 (F : Fr) (n : Int) : Good (L4 F n) (fun u => u.sums.flatMap sumB ++ encT u.trips) (fun u => u = { F with sums := u.sums, trips := u.trips } ∧ okSums n.toNat (-1) [] u.sums ∧ okT u.trips) :=
  ((good_sums n.toNat (-1) [] (by decide)).bind (q := fun e R => L5 { F with sums := e } R) (fun u : Fr => u.sums) (fun e _ => good_L5 _) (fun e u _ hu => by rw [hu.1])).congr
    (fun _ => rfl) (fun u _ => by simp [tailOf]) (fun u => by
      constructor
      · rintro ⟨h1, h2, h3⟩; exact ⟨h2, h1, h3⟩
      · rintro ⟨h1, h2, h3⟩; exact ⟨h2, h1, h3⟩)
theorem good_L3 (F : Fr) : Good (L3 F) (fun u => encS u.sums ++ encT u.trips) (fun u => u = { F with sums := u.sums, trips := u.trips } ∧ okS u.sums ∧ okT u.trips) :=
  ((good4 4096 5 (by decide) (by decide)).bind (q := L4 F) (fun u : Fr => (u.sums.length : Int)) (fun n _ => good_L4 F n) (fun n u hn hu => by have := (okSums_nil.1 hu.2.1).1; omega)).congr
    (fun _ => rfl) (fun u _ => by simp [encS]) (fun u => by
      constructor
      · rintro ⟨⟨h1, h2⟩, h3, h4, h5⟩; exact ⟨h3, ⟨by omega, (okSums_nil.1 h4).2⟩, h5⟩
      · rintro ⟨h1, ⟨h2, h3⟩, h4⟩; exact ⟨⟨by omega, by omega⟩, h1, okSums_nil.2 ⟨by omega, h3⟩, h4⟩)
def okI (vn : Int) (l : List (Int × Int)) : Prop := (l.length : Int) ≤ vn ∧ risesIn vn (-1) l = true ∧ (∀ r ∈ l, 0 ≤ r.1 ∧ In64' r.2)
def encI (l : List (Int × Int)) : List UInt8 := fours [(l.length : Int)] ++ l.flatMap itemB
theorem good_L2 (F : Fr) (n : Int) (hv : F.vn < 4294967296) : Good (L2 F n) (fun u => u.items.flatMap itemB ++ (encS u.sums ++ encT u.trips)) (fun u => u = { F with items := u.items, sums := u.sums, trips := u.trips } ∧ okItems F.vn n.toNat (-1) [] u.items ∧ okS u.sums ∧ okT u.trips) :=
  ((good_items F.vn hv n.toNat (-1) [] (by decide)).bind (q := fun c R => L3 { F with items := c } R) (fun u : Fr => u.items) (fun c _ => good_L3 _) (fun c u _ hu => by rw [hu.1])).congr
    (fun _ => rfl) (fun u _ => by simp [tailOf]) (fun u => by
      constructor
      · rintro ⟨h1, h2, h3⟩; exact ⟨h2, h1, h3⟩
      · rintro ⟨h1, h2, h3⟩; exact ⟨h2, h1, h3⟩)
theorem good_L1 (F : Fr) (hv : F.vn < 4294967296) : Good (L1 F) (fun u => encI u.items ++ (encS u.sums ++ encT u.trips)) (fun u => u = { F with items := u.items, sums := u.sums, trips := u.trips } ∧ okI F.vn u.items ∧ okS u.sums ∧ okT u.trips) :=
  ((good4 F.vn 5 (by decide) hv).bind (q := L2 F) (fun u : Fr => (u.items.length : Int)) (fun n _ => good_L2 F n hv) (fun n u hn hu => by have := (okItems_nil.1 hu.2.1).1; omega)).congr
    (fun _ => rfl) (fun u _ => by simp [encI]) (fun u => by
      constructor
      · rintro ⟨⟨h1, h2⟩, h3, h4, h5⟩; exact ⟨h3, ⟨h2, (okItems_nil.1 h4).2⟩, h5⟩
      · rintro ⟨h1, ⟨h2, h3⟩, h4⟩; exact ⟨⟨by omega, h2⟩, h1, okItems_nil.2 ⟨by omega, h3⟩, h4⟩)
theorem good_L0 (F : Fr) : Good (L0 F) (fun u => fours [u.vn] ++ (encI u.items ++ (encS u.sums ++ encT u.trips)))
    (fun u => u = { F with vn := u.vn, items := u.items, sums := u.sums, trips := u.trips } ∧ (0 ≤ u.vn ∧ u.vn ≤ 4096) ∧ okI u.vn u.items ∧ okS u.sums ∧ okT u.trips) :=
  ((good4 4096 5 (by decide) (by decide)).bind (q := fun n R => L1 { F with vn := n } R) (fun u : Fr => u.vn) (fun n hn => good_L1 _ (show n < 4294967296 by have := hn.2; omega)) (fun n u hn hu => by rw [hu.1])).congr
    (fun _ => rfl) (fun u _ => rfl) (fun u => by
      constructor
      · rintro ⟨h1, h2, h3⟩; exact ⟨h2, h1, h3⟩
      · rintro ⟨h1, h2, h3⟩; exact ⟨h2, h1, h3⟩)

/-! The head. -/
def T7 (a b c d e o : Int) (R : Rd) : Except (Int × Int) (Fr × Rd) := R.word.bind fun x => .ok (⟨a, b, c, d, e, 0, [], [], [], x.1, o == 1⟩, x.2)
def T6 (a b c d e : Int) (R : Rd) : Except (Int × Int) (Fr × Rd) := (R.rd 1 0 1 7).bind fun x => T7 a b c d e x.1 x.2
def T5 (a b c d : Int) (R : Rd) : Except (Int × Int) (Fr × Rd) := (R.rd 4 0 8192 3).bind fun x => T6 a b c d x.1 x.2
def T4 (a b c : Int) (R : Rd) : Except (Int × Int) (Fr × Rd) := (R.rd 4 0 2147483647 3).bind fun x => T5 a b c x.1 x.2
def T3 (a b : Int) (R : Rd) : Except (Int × Int) (Fr × Rd) := (R.rd 1 0 63 3).bind fun x => T4 a b x.1 x.2
def T2 (a : Int) (R : Rd) : Except (Int × Int) (Fr × Rd) := (R.rd 1 0 63 3).bind fun x => T3 a x.1 x.2
theorem head_T (R : Rd) : Rd.head R = (R.rd 1 1 7 8).bind fun x => T2 x.1 x.2 := rfl
theorem good_T7 (a b c d e o : Int) : Good (T7 a b c d e o) (fun u => eights [u.n]) (fun u => u = ⟨a, b, c, d, e, 0, [], [], [], u.n, o == 1⟩ ∧ In64' u.n) :=
  (good8.bind (q := fun x R => .ok (⟨a, b, c, d, e, 0, [], [], [], x, o == 1⟩, R)) (fun u : Fr => u.n) (encQ := fun _ _ => []) (okQ := fun x u => u = ⟨a, b, c, d, e, 0, [], [], [], x, o == 1⟩) (fun x _ => Good.pure _) (fun x u _ hu => by rw [hu])).congr
    (fun _ => rfl) (fun u _ => by simp) (fun u => ⟨fun ⟨h1, h2⟩ => ⟨h2, h1⟩, fun ⟨h1, h2⟩ => ⟨h2, h1⟩⟩)
def ovI (b : Bool) : Int := if b then 1 else 0
theorem ovI_ok (b : Bool) : (0 ≤ ovI b ∧ ovI b ≤ 1) ∧ [b8 (ovI b)] = [ovB b] ∧ (ovI b == 1) = b := by cases b <;> decide
theorem ovI_of {o : Int} (h : 0 ≤ o ∧ o ≤ 1) : ovI (o == 1) = o := by
  rcases (show o = 0 ∨ o = 1 by omega) with rfl | rfl <;> rfl
theorem good_T6 (a b c d e : Int) : Good (T6 a b c d e) (fun u => [ovB u.over] ++ eights [u.n]) (fun u => u = ⟨a, b, c, d, e, 0, [], [], [], u.n, u.over⟩ ∧ In64' u.n) :=
  ((good1 0 1 7 (by decide) (by decide) (by decide)).bind (q := T7 a b c d e) (fun u : Fr => ovI u.over) (fun o _ => good_T7 a b c d e o) (fun o u ho hu => by rw [hu.1]; exact ovI_of ho)).congr
    (fun _ => rfl) (fun u _ => by rw [(ovI_ok u.over).2.1]) (fun u => by
      constructor
      · rintro ⟨h1, h2, h3⟩; rw [(ovI_ok u.over).2.2] at h2; exact ⟨h2, h3⟩
      · rintro ⟨h1, h2⟩; exact ⟨(ovI_ok u.over).1, by rw [(ovI_ok u.over).2.2]; exact h1, h2⟩)
theorem good_T5 (a b c d : Int) : Good (T5 a b c d) (fun u => fours [u.round] ++ ([ovB u.over] ++ eights [u.n])) (fun u => u = ⟨a, b, c, d, u.round, 0, [], [], [], u.n, u.over⟩ ∧ (0 ≤ u.round ∧ u.round ≤ 8192) ∧ In64' u.n) :=
  ((good4 8192 3 (by decide) (by decide)).bind (q := T6 a b c d) (fun u : Fr => u.round) (fun o _ => good_T6 a b c d o) (fun o u ho hu => by rw [hu.1])).congr
    (fun _ => rfl) (fun u _ => rfl) (fun u => ⟨fun ⟨h1, h2, h3⟩ => ⟨h2, h1, h3⟩, fun ⟨h1, h2, h3⟩ => ⟨h2, h1, h3⟩⟩)
theorem good_T4 (a b c : Int) : Good (T4 a b c) (fun u => fours [u.seq] ++ (fours [u.round] ++ ([ovB u.over] ++ eights [u.n]))) (fun u => u = ⟨a, b, c, u.seq, u.round, 0, [], [], [], u.n, u.over⟩ ∧ (0 ≤ u.seq ∧ u.seq ≤ 2147483647) ∧ (0 ≤ u.round ∧ u.round ≤ 8192) ∧ In64' u.n) :=
  ((good4 2147483647 3 (by decide) (by decide)).bind (q := T5 a b c) (fun u : Fr => u.seq) (fun o _ => good_T5 a b c o) (fun o u ho hu => by rw [hu.1])).congr
    (fun _ => rfl) (fun u _ => rfl) (fun u => ⟨fun ⟨h1, h2, h3⟩ => ⟨h2, h1, h3⟩, fun ⟨h1, h2, h3⟩ => ⟨h2, h1, h3⟩⟩)
theorem good_T3 (a b : Int) : Good (T3 a b) (fun u => [b8 u.dst] ++ (fours [u.seq] ++ (fours [u.round] ++ ([ovB u.over] ++ eights [u.n]))))
    (fun u => u = ⟨a, b, u.dst, u.seq, u.round, 0, [], [], [], u.n, u.over⟩ ∧ (0 ≤ u.dst ∧ u.dst ≤ 63) ∧ (0 ≤ u.seq ∧ u.seq ≤ 2147483647) ∧ (0 ≤ u.round ∧ u.round ≤ 8192) ∧ In64' u.n) :=
  ((good1 0 63 3 (by decide) (by decide) (by decide)).bind (q := T4 a b) (fun u : Fr => u.dst) (fun o _ => good_T4 a b o) (fun o u ho hu => by rw [hu.1])).congr
    (fun _ => rfl) (fun u _ => rfl) (fun u => ⟨fun ⟨h1, h2, h3⟩ => ⟨h2, h1, h3⟩, fun ⟨h1, h2, h3⟩ => ⟨h2, h1, h3⟩⟩)
theorem good_T2 (a : Int) : Good (T2 a) (fun u => [b8 u.src] ++ ([b8 u.dst] ++ (fours [u.seq] ++ (fours [u.round] ++ ([ovB u.over] ++ eights [u.n])))))
    (fun u => u = ⟨a, u.src, u.dst, u.seq, u.round, 0, [], [], [], u.n, u.over⟩ ∧ (0 ≤ u.src ∧ u.src ≤ 63) ∧ (0 ≤ u.dst ∧ u.dst ≤ 63) ∧ (0 ≤ u.seq ∧ u.seq ≤ 2147483647) ∧ (0 ≤ u.round ∧ u.round ≤ 8192) ∧ In64' u.n) :=
  ((good1 0 63 3 (by decide) (by decide) (by decide)).bind (q := T3 a) (fun u : Fr => u.src) (fun o _ => good_T3 a o) (fun o u ho hu => by rw [hu.1])).congr
    (fun _ => rfl) (fun u _ => rfl) (fun u => ⟨fun ⟨h1, h2, h3⟩ => ⟨h2, h1, h3⟩, fun ⟨h1, h2, h3⟩ => ⟨h2, h1, h3⟩⟩)
def headOf (u : Fr) : Fr := ⟨u.kind, u.src, u.dst, u.seq, u.round, 0, [], [], [], u.n, u.over⟩
def okHead (u : Fr) : Prop := (1 ≤ u.kind ∧ u.kind ≤ 7) ∧ (0 ≤ u.src ∧ u.src ≤ 63) ∧ (0 ≤ u.dst ∧ u.dst ≤ 63) ∧ (0 ≤ u.seq ∧ u.seq ≤ 2147483647) ∧ (0 ≤ u.round ∧ u.round ≤ 8192) ∧ In64' u.n
theorem good_head : Good Rd.head (fun u => [b8 u.kind] ++ ([b8 u.src] ++ ([b8 u.dst] ++ (fours [u.seq] ++ (fours [u.round] ++ ([ovB u.over] ++ eights [u.n])))))) (fun u => u = headOf u ∧ okHead u) :=
  ((good1 1 7 8 (by decide) (by decide) (by decide)).bind (q := T2) (fun u : Fr => u.kind) (fun o _ => good_T2 o) (fun o u ho hu => by rw [hu.1])).congr
    (fun _ => rfl) (fun u _ => rfl) (fun u => ⟨fun ⟨h1, h2, h3⟩ => ⟨h2, h1, h3⟩, fun ⟨h1, h2, h3⟩ => ⟨h2, h1, h3⟩⟩)

/-! All of it. -/
def Rd.all (R : Rd) : Except (Int × Int) (Fr × Rd) := (Rd.head R).bind fun x => L0 x.1 x.2
theorem decode_all (b : List UInt8) : decodeP b = (Rd.all ⟨b, 0, 0, 0⟩).bind fun x => (Rd.end7 x.1 x.2).bind fun y => .ok y.1 := by
  unfold decodeP Rd.all
  rw [ebind]
  congr 1; funext x
  rw [lists_L, ebind]
def okFr (u : Fr) : Prop := okHead u ∧ (0 ≤ u.vn ∧ u.vn ≤ 4096) ∧ okI u.vn u.items ∧ okS u.sums ∧ okT u.trips
theorem good_all : Good Rd.all Fr.bytes okFr :=
  (good_head.bind (q := L0) headOf (fun h _ => good_L0 h) (fun h u hh hu => by
    obtain ⟨h1, _⟩ := hu
    rw [h1, hh.1]
    rfl)).congr (fun _ => rfl) (fun u hu => by
      simp only [Fr.bytes, Fr.headB, headOf, encI, encS, encT, List.append_assoc, fours2]
      simp) (fun u => by
      constructor
      · rintro ⟨⟨h1, h2⟩, h3, h4⟩; exact ⟨h2, h4⟩
      · rintro ⟨h1, h2⟩; exact ⟨⟨rfl, h1⟩, rfl, h2⟩)
theorem dec_full {F : Fr} (h : okFr F) : decodeP F.bytes = .ok F := by
  rw [decode_all, good_all.full F.bytes 0 F [] (Nat.zero_le _) h (by simp)]
  simp [Except.bind, Rd.end7, Rd.atEnd]
theorem dec_more {F : Fr} (h : okFr F) {more : List UInt8} (hm : more ≠ []) : decodeP (F.bytes ++ more) = .error (4, F.bytes.length) := by
  rw [decode_all, good_all.full (F.bytes ++ more) 0 F more (Nat.zero_le _) h (by simp)]
  have : more.length ≠ 0 := fun h0 => hm (List.eq_nil_of_length_eq_zero h0)
  simp [Except.bind, Rd.end7, Rd.atEnd, hm]
theorem dec_cut {F : Fr} (h : okFr F) {k : Nat} (hk : k < F.bytes.length) : decodeP (F.bytes.take k) = .error (2, k) := by
  rw [decode_all, good_all.cut (F.bytes.take k) 0 F (F.bytes.drop k) (Nat.zero_le _) h (by simp) (by
    intro h0
    have := congrArg List.length h0
    simp at this
    omega)]
  simp only [Except.bind, List.length_take]
  rw [Nat.min_eq_left (Nat.le_of_lt hk)]
theorem dec_sound {b : List UInt8} {F : Fr} (h : decodeP b = .ok F) : okFr F ∧ F.bytes = b := by
  rw [decode_all] at h
  rcases hx : Rd.all ⟨b, 0, 0, 0⟩ with x | ⟨u, R⟩
  · rw [hx] at h; cases h
  · rw [hx] at h
    simp only [Except.bind] at h
    obtain ⟨h1, y, h2, rfl⟩ := good_all.sound b 0 u R (Nat.zero_le _) hx
    unfold Rd.end7 at h
    by_cases ha : (Rd.mk b (0 + u.bytes.length) 0 0).atEnd = true
    · rw [if_pos ha] at h
      injection h with h
      subst h
      simp [Rd.atEnd] at ha
      rw [List.drop_zero] at h2
      have hy : y = [] := by
        have := congrArg List.length h2
        rw [List.length_append] at this
        exact List.eq_nil_of_length_eq_zero (by omega)
      subst hy
      exact ⟨h1, by simpa using h2.symm⟩
    · rw [if_neg ha] at h
      cases h
theorem dec_bad {b : List UInt8} {e a : Int} (h : decodeP b = .error (e, a)) : e ≠ 0 ∧ 0 ≤ a ∧ a ≤ b.length := by
  rw [decode_all] at h
  rcases hx : Rd.all ⟨b, 0, 0, 0⟩ with ⟨e', a'⟩ | ⟨u, R⟩
  · rw [hx] at h
    injection h with h
    injection h with h1 h2
    subst h1 h2
    exact good_all.bad b 0 _ _ (Nat.zero_le _) hx
  · rw [hx] at h
    simp only [Except.bind] at h
    obtain ⟨h1, y, h2, rfl⟩ := good_all.sound b 0 u R (Nat.zero_le _) hx
    obtain ⟨l1, _⟩ := drop_len (Nat.zero_le _) h2
    unfold Rd.end7 at h
    by_cases ha : (Rd.mk b (0 + u.bytes.length) 0 0).atEnd = true
    · rw [if_pos ha] at h
      cases h
    · rw [if_neg ha] at h
      injection h with h
      injection h with h1 h2
      subst h1 h2
      refine ⟨by decide, ?_, ?_⟩
      · show (0 : Int) ≤ ((0 + u.bytes.length : Nat) : Int); omega
      · show ((0 + u.bytes.length : Nat) : Int) ≤ _; omega

/-! What is right can be written, and what is read is right. -/
theorem rises_len (n : Int) : ∀ (l : List (Int × Int)) (last : Int), last ≤ n - 1 → risesIn n last l = true → (l.length : Int) ≤ n - 1 - last ∧ ∀ r ∈ l, last < r.1
  | [], last, h, _ => ⟨by simp; omega, by simp⟩
  | x :: l, last, h, hr => by
    simp only [risesIn, Bool.and_eq_true, decide_eq_true_eq] at hr
    obtain ⟨⟨h1, h2⟩, h3⟩ := hr
    obtain ⟨h4, h5⟩ := rises_len n l x.1 (by omega) h3
    refine ⟨by simp only [List.length_cons]; omega, fun r hm => ?_⟩
    rcases List.mem_cons.1 hm with rfl | hm
    · exact h1
    · have := h5 r hm; omega
theorem risesS_len : ∀ (l : List (Int × Int × Nat)) (last : Int), last ≤ 4095 → (∀ r ∈ l, r.1 ≤ 4095) → risesS last l = true → (l.length : Int) ≤ 4095 - last
  | [], last, h, _, _ => by simp; omega
  | x :: l, last, h, hm, hr => by
    simp only [risesS, Bool.and_eq_true, decide_eq_true_eq] at hr
    have := hm x (by simp)
    have h4 := risesS_len l x.1 this (fun r hr => hm r (by simp [hr])) hr.2
    simp only [List.length_cons]; omega
theorem wrong_zero (F : Fr) : F.wrong = 0 ↔ (¬ (F.kind ≤ 0 ∨ 7 < F.kind)) ∧ F.headOk = true ∧ vecRight F.vn F.items = true ∧ F.sums.any badSum = false ∧ risesS (-1) F.sums = true ∧ F.trips.length ≤ 65536 ∧ F.trips.any badTrip = false := by
  unfold Fr.wrong
  by_cases h1 : F.kind ≤ 0 ∨ 7 < F.kind
  · simp [h1]
  cases h2 : F.headOk
  · simp [h1]
  cases h3 : vecRight F.vn F.items
  · simp [h1]
  cases h4 : F.sums.any badSum
  case true => simp [h1]
  cases h5 : risesS (-1) F.sums
  · simp [h1]
  by_cases h6 : 65536 < F.trips.length
  · simp [h1, h6]; intro h; omega
  cases h7 : F.trips.any badTrip
  · simp [h1, h6]; omega
  · simp [h1, h6]
theorem inR_iff {n m : Int} : inR n m = true ↔ 0 ≤ n ∧ n ≤ m := by simp [inR]
/-- What Go holds of a frame's numbers. -/
structure Fr.In' (F : Fr) : Prop where
  n : In64' F.n
  items : ∀ r ∈ F.items, In64' r.2
  sums : ∀ r ∈ F.sums, In64' r.2.1 ∧ Lt64 r.2.2
  trips : ∀ r ∈ F.trips, In64' r.2.2
theorem okFr_iff (F : Fr) : okFr F ↔ F.wrong = 0 ∧ F.In' := by
  rw [wrong_zero]
  constructor
  · rintro ⟨⟨h1, h2, h3, h4, h5, h6⟩, h7, ⟨h8, h9, h10⟩, ⟨h11, h12, h13⟩, h14, h15⟩
    refine ⟨⟨by omega, ?_, ?_, ?_, h12, h14, ?_⟩, h6, fun r hr => (h10 r hr).2, fun r hr => (h13 r hr).2, fun r hr => (h15 r hr).2.2⟩
    · simp [Fr.headOk, inR]; omega
    · simp [vecRight, inR, h9]; omega
    · rw [List.any_eq_false]; intro r hr; have := (h13 r hr).1; simp [badSum, inR]; omega
    · rw [List.any_eq_false]; intro r hr; have := (h15 r hr).1; have := (h15 r hr).2.1; simp [badTrip, inR]; omega
  · rintro ⟨⟨h1, h2, h3, h4, h5, h6, h7⟩, h8, h9, h10, h11⟩
    simp only [Fr.headOk, Bool.and_eq_true, inR_iff] at h2
    obtain ⟨⟨⟨a1, a2⟩, a3⟩, a4⟩ := h2
    simp only [vecRight, Bool.and_eq_true, inR_iff] at h3
    obtain ⟨b1, b2⟩ := h3
    rw [List.any_eq_false] at h4 h7
    have s1 : ∀ r ∈ F.sums, 0 ≤ r.1 ∧ r.1 ≤ 4095 := fun r hr => by have := h4 r hr; simpa [badSum, inR] using this
    have t1 : ∀ r ∈ F.trips, (0 ≤ r.1 ∧ r.1 ≤ 4095) ∧ (0 ≤ r.2.1 ∧ r.2.1 ≤ 4095) := fun r hr => by have := h7 r hr; simpa [badTrip, inR] using this
    obtain ⟨i1, i2⟩ := rises_len F.vn F.items (-1) (by omega) b2
    have s2 := risesS_len F.sums (-1) (by decide) (fun r hr => (s1 r hr).2) h5
    exact ⟨⟨by omega, a1, a2, a3, a4, h8⟩, b1, ⟨by omega, b2, fun r hr => ⟨by have := i2 r hr; omega, h9 r hr⟩⟩, ⟨by omega, h5, fun r hr => ⟨s1 r hr, h10 r hr⟩⟩, h6, fun r hr => ⟨(t1 r hr).1, (t1 r hr).2, h11 r hr⟩⟩
end Go.Proofs.Ytdjidnccockmmaa
