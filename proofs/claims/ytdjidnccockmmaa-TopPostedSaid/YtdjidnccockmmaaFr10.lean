/- Frames: the writer of numbers' bytes, and what stays as it is while it writes. -/
import Derived.Test.YtdjidnccockmmaaOct12
import Derived.Test.YtdjidnccockmmaaShut
import Derived.Deep.RegionLaw
namespace Go.Proofs.Ytdjidnccockmmaa
set_option linter.unusedSimpArgs false
set_option linter.unusedVariables false
open Go.ChangeShapes Go.WideShapes Go.ChangeAt Go.RowKit
open Go.RowKit (wrap32 wrap64)
set_option maxHeartbeats 1000000

/-- Nothing has changed but blocks from base on whose element type is one of T; there may be new ones. -/
structure KeptB (base : Nat) (T : List TypeId) (w w' : World) : Prop where
  os : w'.os = w.os
  tape : w'.tape = w.tape
  output : w'.output = w.output
  size : w.heap.size ≤ w'.heap.size
  block : ∀ k, k < w.heap.size → (k < base ∨ ∀ cs t fr, w.heap[k]? = some (.cells cs t fr) → t ∉ T) → w'.heap[k]? = w.heap[k]?

section
variable {base : Nat} {T : List TypeId} {a b c w w' : World}
theorem KeptB.of_kept0 (h : Kept [] w w') : KeptB base T w w' := ⟨h.os, h.tape, h.output, h.size, fun k hk _ => h.block k hk (by simp)⟩
theorem KeptB.refl (base : Nat) (T : List TypeId) (w : World) : KeptB base T w w := .of_kept0 (Kept.refl _ _)
theorem KeptB.trans (h : KeptB base T a b) (k : KeptB base T b c) : KeptB base T a c :=
  ⟨k.os.trans h.os, k.tape.trans h.tape, k.output.trans h.output, Nat.le_trans h.size k.size, fun i hi ht =>
    (k.block i (Nat.lt_of_lt_of_le hi h.size) (by rw [h.block i hi ht]; exact ht)).trans (h.block i hi ht)⟩
theorem KeptB.step {L : List Nat} (h : KeptB base T a b) (k : Kept L b c) (hL : ∀ g ∈ L, base ≤ g ∧ ∃ cs t fr, b.heap[g]? = some (.cells cs t fr) ∧ t ∈ T) : KeptB base T a c :=
  h.trans ⟨k.os, k.tape, k.output, k.size, fun i hi ht => k.block i hi (fun hm => by
    obtain ⟨h1, cs, t, fr, h2, h3⟩ := hL i hm
    rcases ht with ht | ht
    · omega
    · exact ht _ _ _ h2 h3)⟩
theorem KeptB.set {g : Nat} {t : TypeId} {cs : List Value} (h : KeptB base T a b) (hg : Blk b g t cs) (hb : base ≤ g) (ht : t ∈ T) (i : Nat) (u : Value) : KeptB base T a (b.setCell ⟨g, i, none⟩ u) :=
  h.step (L := [g]) ((Kept.refl _ _).setCell (.inl (by simp)) _) (fun m hm => by simp at hm; subst hm; exact ⟨hb, _, _, _, hg, ht⟩)
theorem KeptB.app {e : TypeId} {size n : Nat} {v : Value} {xs : List Value} (h : KeptB base T a b) (hk : Kept v.ownBlock.toList b c) (hown : b.ownsRow base e size v n xs) (he : e ∈ T) : KeptB base T a c :=
  h.step hk (fun m hm => by
    rcases hown.2 with ⟨rfl, _⟩ | ⟨g, cap, cur, rfl, hb, hg, _⟩
    · simp [Value.ownBlock] at hm
    · simp [Value.ownBlock] at hm
      subst hm
      exact ⟨hb, _, _, _, hg, he⟩)
theorem KeptB.alloc (h : KeptB base T a b) (o : Obj) : KeptB base T a (b.alloc o) := h.trans (.of_kept0 ((Kept.refl _ _).alloc o))
theorem Kept.thenB (h : Kept [] a b) (k : KeptB base T b c) (hb : a.heap.size ≤ base) : Kept [] a c :=
  ⟨k.os.trans h.os, k.tape.trans h.tape, k.output.trans h.output, Nat.le_trans h.size k.size,
   fun i hi _ => (k.block i (Nat.lt_of_lt_of_le hi h.size) (.inl (by omega))).trans (h.block i hi (by simp))⟩
theorem Blk.keptB {g : Nat} {t : TypeId} {cs : List Value} (h : Blk w g t cs) (hk : KeptB base T w w') (ht : t ∉ T) : Blk w' g t cs :=
  (hk.block g h.lt (.inr (fun cs' t' fr hc => by
    unfold Blk at h
    rw [h] at hc
    injection hc with hc
    injection hc with _ e _
    subst e
    exact ht))).trans h
theorem Blk.keptBlt {g : Nat} {t : TypeId} {cs : List Value} (h : Blk w g t cs) (hk : KeptB base T w w') (hg : g < base) : Blk w' g t cs := (hk.block g h.lt (.inl hg)).trans h
end

/-- The low 32 bits of a number. -/
def u32of (m : Int) : Nat := (m % 4294967296).toNat
theorem u32of_lt (m : Int) : u32of m < 4294967296 := by unfold u32of; omega
theorem wrap_u32of (m : Int) : IntKind.u32.wrap m = ((u32of m : Nat) : Int) := by rw [IntKind.wrap_u32]; unfold u32of; omega
/-- Numbers' bytes, four each, eight each. -/
def fours (ns : List Int) : List UInt8 := ns.flatMap fun n => le (u32of n) 4
def eights (ns : List Int) : List UInt8 := ns.flatMap fun n => le (u64of n) 8
theorem fours_take (ns : List Int) {k : Nat} (hk : k < ns.length) : fours (ns.take (k + 1)) = fours (ns.take k) ++ le (u32of ns[k]) 4 := by
  unfold fours
  rw [List.take_succ_eq_append_getElem hk, List.flatMap_append]
  simp
theorem eights_take (ns : List Int) {k : Nat} (hk : k < ns.length) : eights (ns.take (k + 1)) = eights (ns.take k) ++ le (u64of ns[k]) 8 := by
  unfold eights
  rw [List.take_succ_eq_append_getElem hk, List.flatMap_append]
  simp
theorem fours_length (ns : List Int) : (fours ns).length = 4 * ns.length := by
  unfold fours
  induction ns with
  | nil => rfl
  | cons x l ih => simp only [List.flatMap_cons, List.length_append, le_length, ih, List.length_cons]; omega
theorem eights_length (ns : List Int) : (eights ns).length = 8 * ns.length := by
  unfold eights
  induction ns with
  | nil => rfl
  | cons x l ih => simp only [List.flatMap_cons, List.length_append, le_length, ih, List.length_cons]; omega

/-- The element types that a writer turns. -/
abbrev wrT : List TypeId := [95, 5]
/-- The writer at block p has written those bytes. -/
structure WrAt (w : World) (p base : Nat) (l : List UInt8) : Prop where
  ex : ∃ v, Blk w p 95 [v] ∧ w.ownsRow base 5 1 v l.length (l.map byteV)

theorem blk_ints {w : World} {g : Nat} {t : TypeId} {k : IntKind} {ns : List Int} (h : Blk w g t (ns.map (Value.int k))) {i : Nat} (hi : i < ns.length) : w.cell? ⟨g, i, none⟩ = some (.int k ns[i]) := by
  rw [h.cell]; simp [hi]

/-- What a writer holds behind one more append, stored back. -/
theorem WrAt.put {w wr w1 w2 : World} {p base n2 m c2 : Nat} {l x : List UInt8} {v : Value} {A2 : Option Addr} (HBL : Blk wr p 95 [v]) (HO : wr.ownsRow base 5 1 v l.length (l.map byteV)) (KW : Kept [] wr w1)
    (K2 : Kept v.ownBlock.toList w1 w2) (O2 : w2.ownsRow base 5 1 (.slice A2 n2 c2) (l.length + m) (l.map byteV ++ x.map byteV)) (hm : x.length = m) (hp : base ≤ p) (h : KeptB base wrT w wr) :
    WrAt (w2.setCell ⟨p, 0, none⟩ (.slice A2 n2 c2)) p base (l ++ x) ∧ KeptB base wrT w (w2.setCell ⟨p, 0, none⟩ (.slice A2 n2 c2)) := by
  have hne : p ∉ v.ownBlock.toList := by
    have := own_ne_blk HO HBL (by decide)
    simpa using this
  have hb1 : Blk w2 p 95 [v] := (HBL.kept KW (by simp)).kept K2 hne
  have hk1 : KeptB base wrT w w2 := (h.trans (.of_kept0 KW)).app K2 (own_kept HO KW (fun _ _ => by simp)) (by decide)
  refine ⟨⟨.slice A2 n2 c2, by have := hb1.set 0 (.slice A2 n2 c2); simpa using this, ?_⟩, hk1.set hb1 hp (by decide) 0 _⟩
  rw [List.length_append, List.map_append, hm]
  exact own_kept O2 ((Kept.refl [p] w2).setCell (p := ⟨p, 0, none⟩) (.inl (List.mem_singleton.2 rfl)) _) (fun g hg hmem => by
    simp at hmem
    subst hmem
    exact own_ne_blk O2 hb1 (by decide) hg)

set_option maxRecDepth 100000 in
theorem wfour_any (p base : Nat) (l : List UInt8) (ns : List Int) (g n c : Nat) (w : World) (hw : WrAt w p base l) (hp : base ≤ p) (hb : base ≤ w.heap.size) (hg : Blk w g 3 (ns.map (Value.int .i64))) (hn : ns.length = n) (hlen : l.length + 4 * n ≤ 1073741824) :
    Calls Try.prog 68 #[.pointer (some ⟨p, 0, none⟩), .slice (some ⟨g, 0, none⟩) n c] w fun e w' => e = .returned (.tuple #[]) ∧ WrAt w' p base (l ++ fours ns) ∧ KeptB base wrT w w' := by
  subst hn
  have HG := Lib.hid hg
  have W0 := Lib.hid hw
  have HL := Lib.hid hlen
  have hnl : ns.length ≤ 1073741824 := by omega
  have HP := Lib.hid hp
  have HB := Lib.hid hb
  clear hg hw hlen hp hb
  go_enter Try.func68, Try.ntmps68
  go_wp2_with fail
  go_loopw [8] (fun i wr => ∃ k : Nat, k ≤ ns.length ∧ i = .int .i64 k ∧ Hid (WrAt wr p base (l ++ fours (ns.take k))) ∧ Hid (KeptB base wrT w wr)) (fun i _ => ns.length - (intOf i).toNat)
  case atStart => exact ⟨0, Nat.zero_le _, rfl, Lib.hid (by simpa [fours] using W0.out), Lib.hid (KeptB.refl _ _ _)⟩
  case round =>
    obtain ⟨k, hk, rfl, HW, HK⟩ := hrel
    by_cases hlt : k < ns.length
    · have c0 := blk_ints (HG.out.keptB (T := wrT) HK.out (by decide)) hlt
      obtain ⟨v, hblk, hown⟩ := HW.out.ex
      have d0 := hblk.cell 0
      have f0 := hblk.frozen 0
      simp only [List.getElem?_cons_zero] at d0
      have HBL := Lib.hid hblk
      have HO := Lib.hid hown
      have hpl := hblk.lt
      have hne := hblk
      clear hblk hown hne
      go_wp2_with fail
      have hll : l.length + (fours (ns.take k)).length = l.length + 4 * k := by rw [fours_length, List.length_take, Nat.min_eq_left hk]
      have B1 := Lib.hid (show ((l ++ fours (ns.take k)).length + 4) * 1 ≤ 140737488355328 by have := HL.out; rw [List.length_append, hll]; omega)
      have B2 := Lib.hid (show (l ++ fours (ns.take k)).length + 4 ≤ maxLen by have := HL.out; unfold maxLen; rw [List.length_append, hll]; omega)
      have HLL := Lib.hid hll
      have NE := Lib.hid (own_ne_blk HO.out HBL.out (by decide))
      have BW := Lib.hid (Nat.le_trans HB.out HK.out.size)
      clear hll
      go_region_law (first
        | (refine step_app _ rfl (.tmp 16) (.tmp 19) _ rfl 5 (.int .u8 0) 1 1 Try.underlying25 infoU8 rfl (by decide) base v _ _ rfl (own_kept HO.out KW.out (fun _ _ => by simp)) (some ⟨_, 0, none⟩) 4 4 ((le (u32of ns[k]) 4).map byteV) rfl (by simp [le_length]) (Reads.of_blk HN.out (fun _ _ h => h)) (by simp [byteV, Value.oneCell']) B1.out B2.out (Nat.le_trans BW.out KW.out.size) ?_; intro v2 w2 hown2 hk2 hb2; obtain ⟨A2, c2, rfl, _, _, _, _⟩ := own_form hown2; have d2 := ((HBL.out.kept KW.out (by simp)).kept hk2 (by have := NE.out; simpa using this)).cell 0; have f2 := ((HBL.out.kept KW.out (by simp)).kept hk2 (by have := NE.out; simpa using this)).frozen 0; simp only [List.getElem?_cons_zero] at d2; have K2 := Lib.hid hk2; have O2 := Lib.hid hown2; clear hk2 hown2 hb2)
        | (go_simp; go_at_call 16; rw [wrap_u32of]; refine (put32_any (u32of ns[k]) _ (u32of_lt _)).mono ?_; rintro e w1 ⟨rfl, hblk1, hk1⟩; have KW := Lib.hid (((Kept.refl [] wr).drew).trans hk1); have d1 := (HBL.out.kept KW.out (by simp)).cell 0; simp only [List.getElem?_cons_zero] at d1; have HN := Lib.hid hblk1; clear hk1 hblk1))
      all_goals
        go_wp2_with fail
        go_roundw
        case rel =>
          obtain ⟨a1, a2⟩ := WrAt.put HBL.out HO.out KW.out K2.out O2.out (by simp [le_length]) HP.out HK.out
          simp only [List.length_append] at a1 a2
          exact ⟨k + 1, by omega, by go_num, Lib.hid (by rw [fours_take ns hlt, ← List.append_assoc]; exact a1), Lib.hid a2⟩
        case measure => simp [intOf]; omega
    · go_wp2_with fail
      go_end0
      have : k = ns.length := by omega
      subst this
      rw [List.take_length] at HW
      exact ⟨rfl, HW.out, HK.out⟩
set_option maxRecDepth 100000 in
theorem weight_any (p base : Nat) (l : List UInt8) (ns : List Int) (g n c : Nat) (w : World) (hw : WrAt w p base l) (hp : base ≤ p) (hb : base ≤ w.heap.size) (hg : Blk w g 2 (ns.map (Value.int .i64))) (hn : ns.length = n) (hlen : l.length + 8 * n ≤ 1073741824) :
    Calls Try.prog 69 #[.pointer (some ⟨p, 0, none⟩), .slice (some ⟨g, 0, none⟩) n c] w fun e w' => e = .returned (.tuple #[]) ∧ WrAt w' p base (l ++ eights ns) ∧ KeptB base wrT w w' := by
  subst hn
  have HG := Lib.hid hg
  have W0 := Lib.hid hw
  have HL := Lib.hid hlen
  have hnl : ns.length ≤ 1073741824 := by omega
  have HP := Lib.hid hp
  have HB := Lib.hid hb
  clear hg hw hlen hp hb
  go_enter Try.func69, Try.ntmps69
  go_wp2_with fail
  go_loopw [8] (fun i wr => ∃ k : Nat, k ≤ ns.length ∧ i = .int .i64 k ∧ Hid (WrAt wr p base (l ++ eights (ns.take k))) ∧ Hid (KeptB base wrT w wr)) (fun i _ => ns.length - (intOf i).toNat)
  case atStart => exact ⟨0, Nat.zero_le _, rfl, Lib.hid (by simpa [eights] using W0.out), Lib.hid (KeptB.refl _ _ _)⟩
  case round =>
    obtain ⟨k, hk, rfl, HW, HK⟩ := hrel
    by_cases hlt : k < ns.length
    · have c0 := blk_ints (HG.out.keptB (T := wrT) HK.out (by decide)) hlt
      obtain ⟨v, hblk, hown⟩ := HW.out.ex
      have d0 := hblk.cell 0
      have f0 := hblk.frozen 0
      simp only [List.getElem?_cons_zero] at d0
      have HBL := Lib.hid hblk
      have HO := Lib.hid hown
      have hpl := hblk.lt
      have hne := hblk
      clear hblk hown hne
      go_wp2_with fail
      have hll : l.length + (eights (ns.take k)).length = l.length + 8 * k := by rw [eights_length, List.length_take, Nat.min_eq_left hk]
      have B1 := Lib.hid (show ((l ++ eights (ns.take k)).length + 8) * 1 ≤ 140737488355328 by have := HL.out; rw [List.length_append, hll]; omega)
      have B2 := Lib.hid (show (l ++ eights (ns.take k)).length + 8 ≤ maxLen by have := HL.out; unfold maxLen; rw [List.length_append, hll]; omega)
      have HLL := Lib.hid hll
      have NE := Lib.hid (own_ne_blk HO.out HBL.out (by decide))
      have BW := Lib.hid (Nat.le_trans HB.out HK.out.size)
      clear hll
      go_region_law (first
        | (refine step_app _ rfl (.tmp 16) (.tmp 18) _ rfl 5 (.int .u8 0) 1 1 Try.underlying25 infoU8 rfl (by decide) base v _ _ rfl (own_kept HO.out KW.out (fun _ _ => by simp)) (some ⟨_, 0, none⟩) 8 8 ((le (u64of ns[k]) 8).map byteV) rfl (by simp [le_length]) (Reads.of_blk HN.out (fun _ _ h => h)) (by simp [byteV, Value.oneCell']) B1.out B2.out (Nat.le_trans BW.out KW.out.size) ?_; intro v2 w2 hown2 hk2 hb2; obtain ⟨A2, c2, rfl, _, _, _, _⟩ := own_form hown2; have d2 := ((HBL.out.kept KW.out (by simp)).kept hk2 (by have := NE.out; simpa using this)).cell 0; have f2 := ((HBL.out.kept KW.out (by simp)).kept hk2 (by have := NE.out; simpa using this)).frozen 0; simp only [List.getElem?_cons_zero] at d2; have K2 := Lib.hid hk2; have O2 := Lib.hid hown2; clear hk2 hown2 hb2)
        | (go_simp; go_at_call 18; refine (put64_any ns[k] _).mono ?_; rintro e w1 ⟨rfl, hblk1, hk1⟩; have KW := Lib.hid (((Kept.refl [] wr).drew).trans hk1); have d1 := (HBL.out.kept KW.out (by simp)).cell 0; simp only [List.getElem?_cons_zero] at d1; have HN := Lib.hid hblk1; clear hk1 hblk1))
      all_goals
        go_wp2_with fail
        go_roundw
        case rel =>
          obtain ⟨a1, a2⟩ := WrAt.put HBL.out HO.out KW.out K2.out O2.out (by simp [le_length]) HP.out HK.out
          simp only [List.length_append] at a1 a2
          exact ⟨k + 1, by omega, by go_num, Lib.hid (by rw [eights_take ns hlt, ← List.append_assoc]; exact a1), Lib.hid a2⟩
        case measure => simp [intOf]; omega
    · go_wp2_with fail
      go_end0
      have : k = ns.length := by omega
      subst this
      rw [List.take_length] at HW
      exact ⟨rfl, HW.out, HK.out⟩
end Go.Proofs.Ytdjidnccockmmaa
