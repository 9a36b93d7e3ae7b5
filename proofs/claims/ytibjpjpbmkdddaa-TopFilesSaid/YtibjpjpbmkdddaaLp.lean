/- Texts merged by a program: Fr10, Fr11, FrP1, FrP2. -/
import Derived.Test.YtibjpjpbmkdddaaLl
import Derived.Deep.RegionLaw
import Derived.Deep.DeepCutAuto
namespace Go.Proofs.Ytibjpjpbmkdddaa
/-! Fr10 -/
set_option linter.unusedSimpArgs false
set_option linter.unusedVariables false
open Go.ChangeShapes Go.WideShapes Go.ChangeAt Go.RowKit
open Go.RowKit (wrap32 wrap64)
set_option maxHeartbeats 1000000
section
variable {base : Nat} {T : List TypeId} {a b c w w' : World}
end
/-- The low 32 bits of a number. -/
def u32of (m : Int) : Nat := (m % 4294967296).toNat
theorem u32of_lt (m : Int) : u32of m < 4294967296 := by unfold u32of; omega
theorem wrap_u32of (m : Int) : IntKind.u32.wrap m = ((u32of m : Nat) : Int) := by rw [IntKind.wrap_u32]; unfold u32of; omega
/-- Numbers' bytes, four each, eight each. -/
def fours (ns : List Int) : List UInt8 := ns.flatMap fun n => le (u32of n) 4
def eights (ns : List Int) : List UInt8 := ns.flatMap fun n => le (u64of n) 8
theorem fours_take (ns : List Int) {k : Nat} (hk : k < ns.length) : fours (ns.take (k + 1)) = fours (ns.take k) ++ le (u32of ns[k]) 4 := by
  unfold fours
  rw [List.take_succ_eq_append_getElem hk, List.flatMap_append]
  simp
theorem eights_take (ns : List Int) {k : Nat} (hk : k < ns.length) : eights (ns.take (k + 1)) = eights (ns.take k) ++ le (u64of ns[k]) 8 := by
  unfold eights
  rw [List.take_succ_eq_append_getElem hk, List.flatMap_append]
  simp
theorem fours_length (ns : List Int) : (fours ns).length = 4 * ns.length := by
  unfold fours
  induction ns with
  | nil => rfl
  | cons x l ih => simp only [List.flatMap_cons, List.length_append, le_length, ih, List.length_cons]; omega
theorem eights_length (ns : List Int) : (eights ns).length = 8 * ns.length := by
  unfold eights
  induction ns with
  | nil => rfl
  | cons x l ih => simp only [List.flatMap_cons, List.length_append, le_length, ih, List.length_cons]; omega
theorem blk_ints {w : World} {g : Nat} {t : TypeId} {k : IntKind} {ns : List Int} (h : Blk w g t (ns.map (Value.int k))) {i : Nat} (hi : i < ns.length) : w.cell? ⟨g, i, none⟩ = some (.int k ns[i]) := by
  rw [h.cell]; simp [hi]
/-! Fr11 -/
set_option linter.unusedSimpArgs false
set_option linter.unusedVariables false
open Go.ChangeShapes Go.WideShapes Go.ChangeAt Go.RowKit
open Go.RowKit (wrap32 wrap64)
set_option maxHeartbeats 4000000
/-- The low byte of a number. -/
def b8 (m : Int) : UInt8 := UInt8.ofNat (m % 256).toNat
theorem byteV_b8 (m : Int) : byteV (b8 m) = .int .u8 (IntKind.u8.wrap m) := by
  unfold byteV b8
  rw [IntKind.wrap_u8, UInt8.toNat_ofNat']
  congr 1
  omega
def tripB (t : Int × Int × Int) : List UInt8 := fours [t.1, t.2.1] ++ eights [t.2.2]
theorem tripB_length (t : Int × Int × Int) : (tripB t).length = 16 := by simp [tripB, fours_length, eights_length]
theorem flatB_length {α : Type} (f : α → List UInt8) (k : Nat) (hf : ∀ x, (f x).length = k) (l : List α) : (l.flatMap f).length = k * l.length := by
  induction l with
  | nil => simp
  | cons x l ih => simp only [List.flatMap_cons, List.length_append, hf, ih, List.length_cons, Nat.mul_succ]; omega
theorem flatB_take {α : Type} (f : α → List UInt8) {l : List α} {k : Nat} (hk : k < l.length) : (l.take (k + 1)).flatMap f = (l.take k).flatMap f ++ f l[k] := by
  rw [List.take_succ_eq_append_getElem hk, List.flatMap_append]; simp
theorem own_of_blk {w : World} {base g n : Nat} {e : TypeId} {cs : List Value} (h : Blk w g e cs) (hb : base ≤ g) (hn : cs.length = n) (hm : n ≤ maxLen) : w.ownsRow base e 1 (.slice (some ⟨g, 0, none⟩) n n) n cs :=
  by
  subst hn
  exact ⟨by omega, .inr ⟨g, cs.length, cs.toArray, rfl, hb, h, Nat.le_refl _, hm, by simp, by simp⟩⟩
theorem byteV_b8' (m : Int) : byteV (b8 m) = .int .u8 (m % 256) := by rw [byteV_b8, IntKind.wrap_u8]
theorem Blk.new1 (w : World) (o : Obj) (t : TypeId) (cs : List Value) : Blk ((w.alloc o).alloc (.cells cs.toArray t)) (w.heap.size + 1) t cs := by
  have := Blk.new (w.alloc o) t cs
  rwa [show (w.alloc o).heap.size = w.heap.size + 1 by simp] at this
theorem Blk.new2 (w : World) (o o' : Obj) (t : TypeId) (cs : List Value) : Blk (((w.alloc o).alloc o').alloc (.cells cs.toArray t)) (w.heap.size + 2) t cs := by
  have := Blk.new1 (w.alloc o) o' t cs
  rwa [show (w.alloc o).heap.size + 1 = w.heap.size + 2 by simp] at this
theorem own_slice {w : World} {base : Nat} {e : TypeId} {size n : Nat} {v : Value} {xs : List Value} (h : w.ownsRow base e size v n xs) : ∃ A N c, v = .slice A N c := by
  obtain ⟨A, c, rfl, _⟩ := own_form h
  exact ⟨A, n, c, rfl⟩
theorem eights_wrap (a : Int) (n : Nat) : eights [a, wrap64 (n : Int)] = eights [a, (n : Int)] := by
  have : u64of (wrap64 (n : Int)) = u64of (n : Int) := by unfold u64of wrap64; omega
  simp [eights, this]
/-! FrP1 -/
set_option linter.unusedSimpArgs false
set_option linter.unusedVariables false
open Go.RowKit (wrap32 wrap64)
/-- A number of 64 bits with a sign. -/
def In64' (n : Int) : Prop := -9223372036854775808 ≤ n ∧ n ≤ 9223372036854775807
/-- A reading that takes just what encT writes, of values that are okT: it reads them wherever they stand; what it takes is so; what it refuses it refuses within the bytes; bytes that are cut are short. -/
structure Good {α : Type} (p : Rd → Except (Int × Int) (α × Rd)) (encT : α → List UInt8) (okT : α → Prop) : Prop where
  full : ∀ (b : List UInt8) (pos : Nat) (v : α) (y : List UInt8), pos ≤ b.length → okT v → b.drop pos = encT v ++ y → p ⟨b, pos, 0, 0⟩ = .ok (v, ⟨b, pos + (encT v).length, 0, 0⟩)
  cut : ∀ (b : List UInt8) (pos : Nat) (v : α) (z : List UInt8), pos ≤ b.length → okT v → encT v = b.drop pos ++ z → z ≠ [] → p ⟨b, pos, 0, 0⟩ = .error (2, b.length)
  sound : ∀ (b : List UInt8) (pos : Nat) (v : α) (R : Rd), pos ≤ b.length → p ⟨b, pos, 0, 0⟩ = .ok (v, R) → okT v ∧ ∃ y, b.drop pos = encT v ++ y ∧ R = ⟨b, pos + (encT v).length, 0, 0⟩
  bad : ∀ (b : List UInt8) (pos : Nat) (e a : Int), pos ≤ b.length → p ⟨b, pos, 0, 0⟩ = .error (e, a) → e ≠ 0 ∧ 0 ≤ a ∧ a ≤ b.length
theorem Good.pure {α : Type} (c : α) : Good (fun R => .ok (c, R)) (fun _ => []) (fun v => v = c) where
  full := by rintro b pos v y _ rfl _; rfl
  cut := by intro b pos v z hp _ h hz; simp at h; exact absurd h.2 hz
  sound := by intro b pos v R _ h; injection h with h; injection h with h1 h2; subst h1 h2; exact ⟨rfl, b.drop pos, by simp, rfl⟩
  bad := by intro b pos e a _ h; cases h
theorem drop_len {b x y : List UInt8} {pos : Nat} (hp : pos ≤ b.length) (h : b.drop pos = x ++ y) : pos + x.length ≤ b.length ∧ b.drop (pos + x.length) = y := by
  have h1 : b.length - pos = x.length + y.length := by rw [← List.length_drop, h, List.length_append]
  refine ⟨by omega, ?_⟩
  rw [← List.drop_drop, h, List.drop_left]
theorem Good.bind {α β : Type} {p : Rd → Except (Int × Int) (α × Rd)} {encT : α → List UInt8} {okT : α → Prop} {q : α → Rd → Except (Int × Int) (β × Rd)} {encQ : α → β → List UInt8} {okQ : α → β → Prop} (proj : β → α)
    (hp : Good p encT okT) (hq : ∀ v, okT v → Good (q v) (encQ v) (okQ v)) (hpr : ∀ v u, okT v → okQ v u → proj u = v) :
    Good (fun R => (p R).bind fun x => q x.1 x.2) (fun u => encT (proj u) ++ encQ (proj u) u) (fun u => okT (proj u) ∧ okQ (proj u) u) where
  full := by
    rintro b pos u y hpos ⟨h1, h2⟩ hd
    rw [List.append_assoc] at hd
    simp only [hp.full b pos _ _ hpos h1 hd, Except.bind]
    obtain ⟨l1, l2⟩ := drop_len hpos hd
    rw [(hq _ h1).full b _ u y l1 h2 l2, List.length_append, Nat.add_assoc]
  cut := by
    rintro b pos u z hpos ⟨h1, h2⟩ he hz
    by_cases hc : (encT (proj u)).length ≤ (b.drop pos).length
    · have hd : b.drop pos = encT (proj u) ++ (b.drop pos).drop (encT (proj u)).length := by
        have := congrArg (List.take (encT (proj u)).length) he
        rw [List.take_left, List.take_append_of_le_length hc] at this
        conv => lhs; rw [← List.take_append_drop (encT (proj u)).length (b.drop pos)]
        rw [← this]
      simp only [hp.full b pos _ _ hpos h1 hd, Except.bind]
      obtain ⟨l1, l2⟩ := drop_len hpos hd
      refine (hq _ h1).cut b _ u z l1 h2 ?_ hz
      rw [l2]
      have := he
      rw [hd, List.append_assoc] at this
      simpa using this
    · have hd : encT (proj u) = b.drop pos ++ (encT (proj u)).drop (b.drop pos).length := by
        have := congrArg (List.take (b.drop pos).length) he
        rw [List.take_left, List.take_append_of_le_length (by omega)] at this
        conv => lhs; rw [← List.take_append_drop (b.drop pos).length (encT (proj u))]
        rw [this]
      have hz' : (encT (proj u)).drop (b.drop pos).length ≠ [] := by
        intro h0
        have := congrArg List.length h0
        rw [List.length_drop] at this
        simp only [List.length_nil] at this
        omega
      simp only [hp.cut b pos _ _ hpos h1 hd hz', Except.bind]
  sound := by
    intro b pos u R hpos h
    rcases hx : p ⟨b, pos, 0, 0⟩ with x | ⟨v, R1⟩
    · simp only [hx, Except.bind] at h; cases h
    · simp only [hx, Except.bind] at h
      obtain ⟨h1, y, h2, rfl⟩ := hp.sound b pos v R1 hpos hx
      obtain ⟨l1, l2⟩ := drop_len hpos h2
      obtain ⟨h3, y2, h4, rfl⟩ := (hq v h1).sound b _ u R l1 h
      have e := hpr v u h1 h3
      refine ⟨by rw [e]; exact ⟨h1, h3⟩, y2, ?_, ?_⟩
      · rw [e, h2, ← l2, h4, List.append_assoc]
      · rw [e, List.length_append, Nat.add_assoc]
  bad := by
    intro b pos e a hpos h
    rcases hx : p ⟨b, pos, 0, 0⟩ with ⟨e', a'⟩ | ⟨v, R1⟩
    · simp only [hx, Except.bind] at h
      injection h with h
      injection h with h1 h2
      subst h1 h2
      exact hp.bad b pos _ _ hpos hx
    · simp only [hx, Except.bind] at h
      obtain ⟨h1, y, h2, rfl⟩ := hp.sound b pos v R1 hpos hx
      obtain ⟨l1, _⟩ := drop_len hpos h2
      exact (hq v h1).bad b _ e a l1 h
/-- The same reading, said otherwise. -/
theorem Good.congr {α : Type} {p p' : Rd → Except (Int × Int) (α × Rd)} {encT encT' : α → List UInt8} {okT okT' : α → Prop} (h : Good p encT okT) (hp : ∀ R, p R = p' R) (he : ∀ v, okT v → encT v = encT' v) (ho : ∀ v, okT v ↔ okT' v) : Good p' encT' okT' where
  full := by intro b pos v y h1 h2 h3; rw [← hp, ← he v ((ho v).2 h2)]; exact h.full b pos v y h1 ((ho v).2 h2) (by rw [he v ((ho v).2 h2)]; exact h3)
  cut := by intro b pos v z h1 h2 h3 h4; rw [← hp]; exact h.cut b pos v z h1 ((ho v).2 h2) (by rw [he v ((ho v).2 h2)]; exact h3) h4
  sound := by
    intro b pos v R h1 h2
    rw [← hp] at h2
    obtain ⟨h3, y, h4, h5⟩ := h.sound b pos v R h1 h2
    exact ⟨(ho v).1 h3, y, by rw [← he v h3]; exact h4, by rw [← he v h3]; exact h5⟩
  bad := by intro b pos e a h1 h2; rw [← hp] at h2; exact h.bad b pos e a h1 h2
theorem take_short {b : List UInt8} {pos k : Nat} (hs : (b.length : Int) - pos < k) : (Rd.mk b pos 0 0).after k = ⟨b, pos, 2, b.length⟩ := by
  unfold Rd.after
  rw [if_neg (by simp), if_neg (by omega), if_pos hs]
theorem take_full {b : List UInt8} {pos k : Nat} (hs : pos + k ≤ b.length) : (Rd.mk b pos 0 0).after k = ⟨b, pos + k, 0, 0⟩ ∧ (Rd.mk b pos 0 0).got k = (b.drop pos).take k := by
  have hc : (Rd.mk b pos 0 0).can k := ⟨rfl, Int.natCast_nonneg _, by show (k : Int) ≤ (b.length : Int) - pos; omega⟩
  refine ⟨?_, ?_⟩
  · rw [Rd.after_can hc, Int.toNat_natCast]
  · unfold Rd.got
    rw [if_pos hc, Int.toNat_natCast]
theorem le_num (l : List UInt8) : le (num l) l.length = l := by
  induction l with
  | nil => rfl
  | cons x l ih =>
    have hx := x.toNat_lt
    have e1 : (x.toNat + 256 * num l) / 256 = num l := by omega
    have e2 : UInt8.ofNat (x.toNat + 256 * num l) = x := by
      apply UInt8.toNat_inj.1
      rw [UInt8.toNat_ofNat']
      omega
    simp only [num, le, List.length_cons, e1, e2, ih]
theorem good_rd (k : Nat) (low most e : Int) (bits : Nat) (hb : 256 ^ k = bits) (he : e ≠ 0) (h0 : 0 ≤ low) (hm : most < bits) :
    Good (fun R => R.rd k low most e) (fun n => le n.toNat k) (fun n => low ≤ n ∧ n ≤ most) where
  full := by
    rintro b pos v y hpos ⟨h1, h2⟩ hd
    obtain ⟨l1, l2⟩ := drop_len hpos hd
    rw [le_length] at l1 l2
    obtain ⟨a1, a2⟩ := take_full l1
    have hn : num ((Rd.mk b pos 0 0).got k) = v.toNat := by
      rw [a2, hd, List.take_append_of_le_length (by rw [le_length]; exact Nat.le_refl _), List.take_of_length_le (by rw [le_length]; exact Nat.le_refl _), num_le, hb]
      exact Nat.mod_eq_of_lt (by omega)
    have hv : ((num ((Rd.mk b pos 0 0).got k) : Nat) : Int) = v := by rw [hn]; omega
    simp only [Rd.rd]
    rw [a1, if_neg (by simp), hv, if_pos ⟨h1, h2⟩, le_length]
  cut := by
    rintro b pos v z hpos ⟨h1, h2⟩ hd hz
    have hl := congrArg List.length hd
    rw [le_length, List.length_append, List.length_drop] at hl
    have hz1 : 0 < z.length := by cases z with
      | nil => exact absurd rfl hz
      | cons _ _ => simp
    simp only [Rd.rd]
    rw [take_short (by omega), if_pos (by simp)]
  sound := by
    intro b pos v R hpos h
    simp only [Rd.rd] at h
    by_cases hs : pos + k ≤ b.length
    · obtain ⟨a1, a2⟩ := take_full hs
      rw [a1, if_neg (by simp)] at h
      split at h
      · rename_i hr
        injection h with h
        injection h with h1 h2
        subst h1 h2
        refine ⟨hr, (b.drop pos).drop k, ?_, ?_⟩
        · rw [Int.toNat_natCast, a2]
          have hl : ((b.drop pos).take k).length = k := by simp; omega
          have := le_num ((b.drop pos).take k)
          rw [hl] at this
          rw [this, List.take_append_drop]
        · rw [le_length]
      · cases h
    · rw [take_short (by omega), if_pos (by simp)] at h
      cases h
  bad := by
    intro b pos e' a hpos h
    simp only [Rd.rd] at h
    by_cases hs : pos + k ≤ b.length
    · obtain ⟨a1, a2⟩ := take_full hs
      rw [a1, if_neg (by simp)] at h
      split at h
      · cases h
      · injection h with h
        injection h with h1 h2
        subst h1 h2
        exact ⟨he, by show (0 : Int) ≤ (pos : Int); omega, by show (pos : Int) ≤ _; omega⟩
    · rw [take_short (by omega), if_pos (by simp)] at h
      injection h with h
      injection h with h1 h2
      subst h1 h2
      exact ⟨by show (2 : Int) ≠ 0; decide, by show (0 : Int) ≤ (b.length : Int); omega, Int.le_refl _⟩
theorem wrap_of_lt {m : Nat} (h : m < 18446744073709551616) : In64' (wrap64 (m : Int)) ∧ u64of (wrap64 (m : Int)) = m := by
  unfold In64' u64of wrap64
  constructor
  · constructor <;> omega
  · omega
theorem good_word : Good Rd.word (fun n => le (u64of n) 8) In64' where
  full := by
    rintro b pos v y hpos hv hd
    obtain ⟨l1, l2⟩ := drop_len hpos hd
    rw [le_length] at l1 l2
    obtain ⟨a1, a2⟩ := take_full l1
    have hn : num ((Rd.mk b pos 0 0).got 8) = u64of v := by
      have a2' : (Rd.mk b pos 0 0).got 8 = (b.drop pos).take 8 := a2
      rw [a2', hd, List.take_append_of_le_length (by rw [le_length]; exact Nat.le_refl _), List.take_of_length_le (by rw [le_length]; exact Nat.le_refl _), num_le]
      exact Nat.mod_eq_of_lt (by have := u64of_lt v; unfold Lt64 at this; exact this)
    have a1' : (Rd.mk b pos 0 0).after 8 = ⟨b, pos + 8, 0, 0⟩ := a1
    simp only [Rd.word]
    rw [a1', if_neg (by simp), hn, wrap64_u64of v hv.1 hv.2, le_length]
  cut := by
    rintro b pos v z hpos hv hd hz
    have hl := congrArg List.length hd
    rw [le_length, List.length_append, List.length_drop] at hl
    have hz1 : 0 < z.length := by cases z with
      | nil => exact absurd rfl hz
      | cons _ _ => simp
    have a1' : (Rd.mk b pos 0 0).after 8 = ⟨b, pos, 2, b.length⟩ := take_short (k := 8) (by omega)
    simp only [Rd.word]
    rw [a1', if_pos (by simp)]
  sound := by
    intro b pos v R hpos h
    simp only [Rd.word] at h
    by_cases hs : pos + 8 ≤ b.length
    · obtain ⟨a1, a2⟩ := take_full hs
      have a1' : (Rd.mk b pos 0 0).after 8 = ⟨b, pos + 8, 0, 0⟩ := a1
      have a2' : (Rd.mk b pos 0 0).got 8 = (b.drop pos).take 8 := a2
      rw [a1', if_neg (by simp)] at h
      injection h with h
      injection h with h1 h2
      subst h1 h2
      have hl : ((b.drop pos).take 8).length = 8 := by simp; omega
      have hlt : num ((b.drop pos).take 8) < 18446744073709551616 := by have := num_lt ((b.drop pos).take 8); rw [hl] at this; exact this
      rw [a2']
      obtain ⟨w1, w2⟩ := wrap_of_lt hlt
      refine ⟨w1, (b.drop pos).drop 8, ?_, ?_⟩
      · rw [w2]
        have := le_num ((b.drop pos).take 8)
        rw [hl] at this
        rw [this, List.take_append_drop]
      · rw [le_length]
    · have a1' : (Rd.mk b pos 0 0).after 8 = ⟨b, pos, 2, b.length⟩ := take_short (k := 8) (by omega)
      rw [a1', if_pos (by simp)] at h
      cases h
  bad := by
    intro b pos e' a hpos h
    simp only [Rd.word] at h
    by_cases hs : pos + 8 ≤ b.length
    · obtain ⟨a1, a2⟩ := take_full hs
      have a1' : (Rd.mk b pos 0 0).after 8 = ⟨b, pos + 8, 0, 0⟩ := a1
      rw [a1', if_neg (by simp)] at h
      cases h
    · have a1' : (Rd.mk b pos 0 0).after 8 = ⟨b, pos, 2, b.length⟩ := take_short (k := 8) (by omega)
      rw [a1', if_pos (by simp)] at h
      injection h with h
      injection h with h1 h2
      subst h1 h2
      exact ⟨by show (2 : Int) ≠ 0; decide, by show (0 : Int) ≤ (b.length : Int); omega, Int.le_refl _⟩
/-! FrP2 -/
set_option linter.unusedSimpArgs false
set_option linter.unusedVariables false
open Go.RowKit (wrap32 wrap64)
theorem u32_nat {n : Int} (h0 : 0 ≤ n) (h : n < 4294967296) : u32of n = n.toNat := by unfold u32of; omega
theorem fours1 {n : Int} (h0 : 0 ≤ n) (h : n < 4294967296) : fours [n] = le n.toNat 4 := by simp [fours, u32_nat h0 h]
theorem eights1 (n : Int) : eights [n] = le (u64of n) 8 := by simp [eights]
/-- A number of four bytes, up to most. -/
theorem good4 (most e : Int) (he : e ≠ 0) (hm : most < 4294967296) : Good (fun R => R.rd 4 0 most e) (fun n => fours [n]) (fun n => 0 ≤ n ∧ n ≤ most) :=
  (good_rd 4 0 most e 4294967296 (by decide) he (Int.le_refl _) (by omega)).congr (fun _ => rfl) (fun v hv => (fours1 hv.1 (by have := hv.2; omega)).symm) (fun _ => Iff.rfl)
theorem b8_le {n : Int} (h0 : 0 ≤ n) (h : n < 256) : [b8 n] = le n.toNat 1 := by
  have e : (n % 256).toNat = n.toNat := by omega
  simp [b8, le, e]
/-- A number of one byte, from low on, up to most. -/
theorem good1 (low most e : Int) (he : e ≠ 0) (h0 : 0 ≤ low) (hm : most < 256) : Good (fun R => R.rd 1 low most e) (fun n => [b8 n]) (fun n => low ≤ n ∧ n ≤ most) :=
  (good_rd 1 low most e 256 (by decide) he h0 (by omega)).congr (fun _ => rfl) (fun v hv => (b8_le (by have := hv.1; omega) (by have := hv.2; omega)).symm) (fun _ => Iff.rfl)
theorem good8 : Good Rd.word (fun n => eights [n]) In64' := good_word.congr (fun _ => rfl) (fun v _ => (eights1 v).symm) (fun _ => Iff.rfl)
end Go.Proofs.Ytibjpjpbmkdddaa
