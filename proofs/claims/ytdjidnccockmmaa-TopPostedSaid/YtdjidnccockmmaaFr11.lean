/- Frames: their bytes, in plain words, and the program's Encode. -/
import Derived.Test.YtdjidnccockmmaaFr5
import Derived.Test.YtdjidnccockmmaaFr10
import Derived.Deep.DeepCutAuto
namespace Go.Proofs.Ytdjidnccockmmaa
set_option linter.unusedSimpArgs false
set_option linter.unusedVariables false
open Go.ChangeShapes Go.WideShapes Go.ChangeAt Go.RowKit
open Go.RowKit (wrap32 wrap64)
set_option maxHeartbeats 4000000

/-- The low byte of a number. -/
def b8 (m : Int) : UInt8 := UInt8.ofNat (m % 256).toNat
theorem byteV_b8 (m : Int) : byteV (b8 m) = .int .u8 (IntKind.u8.wrap m) := by
  unfold byteV b8
  rw [IntKind.wrap_u8, UInt8.toNat_ofNat']
  congr 1
  omega
/-- A bool's byte. -/
def ovB (b : Bool) : UInt8 := if b then 1 else 0
/-- What a frame's head is as bytes. -/
def Fr.headB (F : Fr) : List UInt8 := [b8 F.kind, b8 F.src, b8 F.dst] ++ fours [F.seq, F.round] ++ [ovB F.over] ++ eights [F.n] ++ fours [F.vn, F.items.length]
def itemB (r : Int × Int) : List UInt8 := fours [r.1] ++ eights [r.2]
def sumB (s : Int × Int × Nat) : List UInt8 := fours [s.1] ++ eights [s.2.1, (s.2.2 : Int)]
def tripB (t : Int × Int × Int) : List UInt8 := fours [t.1, t.2.1] ++ eights [t.2.2]
def Fr.bytes (F : Fr) : List UInt8 := F.headB ++ F.items.flatMap itemB ++ fours [(F.sums.length : Int)] ++ F.sums.flatMap sumB ++ fours [(F.trips.length : Int)] ++ F.trips.flatMap tripB
theorem itemB_length (r : Int × Int) : (itemB r).length = 12 := by simp [itemB, fours_length, eights_length]
theorem sumB_length (s : Int × Int × Nat) : (sumB s).length = 20 := by simp [sumB, fours_length, eights_length]
theorem tripB_length (t : Int × Int × Int) : (tripB t).length = 16 := by simp [tripB, fours_length, eights_length]
theorem headB_length (F : Fr) : F.headB.length = 28 := by simp [Fr.headB, fours_length, eights_length]
theorem flatB_length {α : Type} (f : α → List UInt8) (k : Nat) (hf : ∀ x, (f x).length = k) (l : List α) : (l.flatMap f).length = k * l.length := by
  induction l with
  | nil => simp
  | cons x l ih => simp only [List.flatMap_cons, List.length_append, hf, ih, List.length_cons, Nat.mul_succ]; omega
theorem flatB_take {α : Type} (f : α → List UInt8) {l : List α} {k : Nat} (hk : k < l.length) : (l.take (k + 1)).flatMap f = (l.take k).flatMap f ++ f l[k] := by
  rw [List.take_succ_eq_append_getElem hk, List.flatMap_append]; simp
theorem bytes_length (F : Fr) : F.bytes.length = 36 + 12 * F.items.length + 20 * F.sums.length + 16 * F.trips.length := by
  simp only [Fr.bytes, List.length_append, headB_length, fours_length, flatB_length _ _ itemB_length, flatB_length _ _ sumB_length, flatB_length _ _ tripB_length, List.length_cons, List.length_nil]
  omega
theorem own_of_blk {w : World} {base g n : Nat} {e : TypeId} {cs : List Value} (h : Blk w g e cs) (hb : base ≤ g) (hn : cs.length = n) (hm : n ≤ maxLen) : w.ownsRow base e 1 (.slice (some ⟨g, 0, none⟩) n n) n cs :=
  by
  subst hn
  exact ⟨by omega, .inr ⟨g, cs.length, cs.toArray, rfl, hb, h, Nat.le_refl _, hm, by simp, by simp⟩⟩
theorem byteV_b8' (m : Int) : byteV (b8 m) = .int .u8 (m % 256) := by rw [byteV_b8, IntKind.wrap_u8]
theorem Blk.new1 (w : World) (o : Obj) (t : TypeId) (cs : List Value) : Blk ((w.alloc o).alloc (.cells cs.toArray t)) (w.heap.size + 1) t cs := by
  have := Blk.new (w.alloc o) t cs
  rwa [show (w.alloc o).heap.size = w.heap.size + 1 by simp] at this
theorem Blk.new2 (w : World) (o o' : Obj) (t : TypeId) (cs : List Value) : Blk (((w.alloc o).alloc o').alloc (.cells cs.toArray t)) (w.heap.size + 2) t cs := by
  have := Blk.new1 (w.alloc o) o' t cs
  rwa [show (w.alloc o).heap.size + 1 = w.heap.size + 2 by simp] at this
theorem own_slice {w : World} {base : Nat} {e : TypeId} {size n : Nat} {v : Value} {xs : List Value} (h : w.ownsRow base e size v n xs) : ∃ A N c, v = .slice A N c := by
  obtain ⟨A, c, rfl, _⟩ := own_form h
  exact ⟨A, n, c, rfl⟩
theorem eights_wrap (a : Int) (n : Nat) : eights [a, wrap64 (n : Int)] = eights [a, (n : Int)] := by
  have : u64of (wrap64 (n : Int)) = u64of (n : Int) := by unfold u64of wrap64; omega
  simp [eights, this]
/-- The same, where the numbers have just been laid into a block of their own. -/
theorem wfour_new (p base : Nat) (l : List UInt8) (ns : List Int) (n c : Nat) (w : World) (hw : WrAt w p base l) (hp : base ≤ p) (hb : base ≤ w.heap.size) (hn : ns.length = n) (hlen : l.length + 4 * n ≤ 1073741824) :
    Calls Try.prog 68 #[.pointer (some ⟨p, 0, none⟩), .slice (some ⟨w.heap.size, 0, none⟩) n c] (w.alloc (.cells (ns.map (Value.int .i64)).toArray 3)) fun e w' => e = .returned (.tuple #[]) ∧ WrAt w' p base (l ++ fours ns) ∧ KeptB base wrT w w' :=
  (wfour_any p base l ns w.heap.size n c _ ⟨_, hw.ex.choose_spec.1.alloc _, hw.ex.choose_spec.2.alloc _⟩ hp (by simp; omega) (Blk.new _ _ _) hn hlen).mono fun _ _ ⟨h1, h2, h3⟩ => ⟨h1, h2, (KeptB.of_kept0 ((Kept.refl [] _).alloc _)).trans h3⟩
theorem weight_new (p base : Nat) (l : List UInt8) (ns : List Int) (n c : Nat) (w : World) (hw : WrAt w p base l) (hp : base ≤ p) (hb : base ≤ w.heap.size) (hn : ns.length = n) (hlen : l.length + 8 * n ≤ 1073741824) :
    Calls Try.prog 69 #[.pointer (some ⟨p, 0, none⟩), .slice (some ⟨w.heap.size, 0, none⟩) n c] (w.alloc (.cells (ns.map (Value.int .i64)).toArray 2)) fun e w' => e = .returned (.tuple #[]) ∧ WrAt w' p base (l ++ eights ns) ∧ KeptB base wrT w w' :=
  (weight_any p base l ns w.heap.size n c _ ⟨_, hw.ex.choose_spec.1.alloc _, hw.ex.choose_spec.2.alloc _⟩ hp (by simp; omega) (Blk.new _ _ _) hn hlen).mono fun _ _ ⟨h1, h2, h3⟩ => ⟨h1, h2, (KeptB.of_kept0 ((Kept.refl [] _).alloc _)).trans h3⟩
/-- The same, behind one more block. -/
theorem wfour_box (p base : Nat) (l : List UInt8) (ns : List Int) (n c : Nat) (w : World) (o : Obj) (hw : WrAt w p base l) (hp : base ≤ p) (hb : base ≤ w.heap.size) (hn : ns.length = n) (hlen : l.length + 4 * n ≤ 1073741824) :
    Calls Try.prog 68 #[.pointer (some ⟨p, 0, none⟩), .slice (some ⟨w.heap.size + 1, 0, none⟩) n c] ((w.alloc o).alloc (.cells (ns.map (Value.int .i64)).toArray 3)) fun e w' => e = .returned (.tuple #[]) ∧ WrAt w' p base (l ++ fours ns) ∧ KeptB base wrT (w.alloc o) w' :=
  (wfour_any p base l ns (w.heap.size + 1) n c _ ⟨_, (hw.ex.choose_spec.1.alloc _).alloc _, (hw.ex.choose_spec.2.alloc _).alloc _⟩ hp (by simp; omega) (Blk.new1 _ _ _ _) hn hlen).mono fun _ _ ⟨h1, h2, h3⟩ => ⟨h1, h2, (KeptB.of_kept0 ((Kept.refl [] _).alloc _)).trans h3⟩
theorem weight_box (p base : Nat) (l : List UInt8) (ns : List Int) (n c : Nat) (w : World) (o : Obj) (hw : WrAt w p base l) (hp : base ≤ p) (hb : base ≤ w.heap.size) (hn : ns.length = n) (hlen : l.length + 8 * n ≤ 1073741824) :
    Calls Try.prog 69 #[.pointer (some ⟨p, 0, none⟩), .slice (some ⟨w.heap.size + 1, 0, none⟩) n c] ((w.alloc o).alloc (.cells (ns.map (Value.int .i64)).toArray 2)) fun e w' => e = .returned (.tuple #[]) ∧ WrAt w' p base (l ++ eights ns) ∧ KeptB base wrT (w.alloc o) w' :=
  (weight_any p base l ns (w.heap.size + 1) n c _ ⟨_, (hw.ex.choose_spec.1.alloc _).alloc _, (hw.ex.choose_spec.2.alloc _).alloc _⟩ hp (by simp; omega) (Blk.new1 _ _ _ _) hn hlen).mono fun _ _ ⟨h1, h2, h3⟩ => ⟨h1, h2, (KeptB.of_kept0 ((Kept.refl [] _).alloc _)).trans h3⟩
/-- The lists of a frame are not too long to be written. -/
structure Fr.Short (F : Fr) : Prop where
  items : F.items.length ≤ 1048576
  sums : F.sums.length ≤ 1048576
  trips : F.trips.length ≤ 1048576

set_option maxRecDepth 100000 in
theorem frameEncode_bad (F : Fr) (A1 A2 A3 : Option Addr) (c1 c2 c3 : Nat) (w : World) (hF : FrIn w F A1 A2 A3) (hbad : F.wrong ≠ 0) :
    Calls Try.prog 33 #[.agg (frC F A1 A2 A3 c1 c2 c3).toArray] w fun e w' => e = .returned (.tuple #[.slice none 0 0, .int .i64 F.wrong]) ∧ Kept [] w w' := by
  have HF := Lib.hid (hF.kept0 ((Kept.refl [] w).alloc (.cells (frC F A1 A2 A3 c1 c2 c3).toArray 60)))
  have K0 := Lib.hid ((Kept.refl [] w).alloc (.cells (frC F A1 A2 A3 c1 c2 c3).toArray 60))
  have hne : (F.wrong != 0) = true := by rw [bne_iff_ne]; exact hbad
  clear hF hbad
  go_enter Try.func33, Try.ntmps33
  go_wp2_with fail
  refine (frameRight_any F A1 A2 A3 c1 c2 c3 _ HF.out).mono ?_
  rintro e w1 ⟨rfl, hk⟩
  have K1 := Lib.hid (K0.out.trans hk)
  clear hk
  go_wp2_with fail
  go_ret2
  exact ⟨rfl, K1.out⟩

set_option maxRecDepth 100000 in
theorem frameEncode_ok (F : Fr) (A1 A2 A3 : Option Addr) (c1 c2 c3 : Nat) (w : World) (hF : FrIn w F A1 A2 A3) (hok : F.wrong = 0) (hs : F.Short) :
    Calls Try.prog 33 #[.agg (frC F A1 A2 A3 c1 c2 c3).toArray] w fun e w' => ∃ v, e = .returned (.tuple #[v, .int .i64 0]) ∧ w'.ownsRow w.heap.size 5 1 v F.bytes.length (F.bytes.map byteV) ∧ Kept [] w w' := by
  have HX := Lib.hid (Blk.new w 60 (frC F A1 A2 A3 c1 c2 c3))
  have HF := Lib.hid (hF.kept0 ((Kept.refl [] w).alloc (.cells (frC F A1 A2 A3 c1 c2 c3).toArray 60)))
  have K0 := Lib.hid ((Kept.refl [] w).alloc (.cells (frC F A1 A2 A3 c1 c2 c3).toArray 60))
  have S0 := Lib.hid (show w.heap.size + 1 ≤ (w.alloc (.cells (frC F A1 A2 A3 c1 c2 c3).toArray 60)).heap.size by simp)
  have HS := Lib.hid hs
  have HOK := Lib.hid hok
  clear hF hok hs
  go_enter Try.func33, Try.ntmps33
  go_wp2_with fail
  refine (frameRight_any F A1 A2 A3 c1 c2 c3 _ HF.out).mono ?_
  rintro e w1 ⟨rfl, hk⟩
  rw [HOK.out]
  have K1 := Lib.hid (K0.out.trans hk)
  have S1 := Lib.hid (Nat.le_trans S0.out hk.size)
  have HX1 := Lib.hid (HX.out.kept hk (by simp))
  have HF := Lib.hid (HF.out.kept0 hk)
  clear hk
  have hlt := HX1.out.lt
  have hx0 := HX1.out.cell 0
  have hx1 := HX1.out.cell 1
  have hx2 := HX1.out.cell 2
  have hx3 := HX1.out.cell 3
  have hx4 := HX1.out.cell 4
  simp only [List.getElem?_cons_zero, List.getElem?_cons_succ] at hx0 hx1 hx2 hx3 hx4
  go_wp2_with fail
  refine (wfour_any (w1.heap.size + 1) w1.heap.size [b8 F.kind, b8 F.src, b8 F.dst] [F.seq, F.round] (w1.heap.size + 2) 2 2 _ ?_ (by omega) (by simp; omega) (Blk.new2 _ _ _ _ _) rfl (by simp)).mono ?_
  · have h3 : [b8 F.kind, b8 F.src, b8 F.dst].map byteV = [.int .u8 (F.kind % 256), .int .u8 (F.src % 256), .int .u8 (F.dst % 256)] := by simp [byteV_b8']
    exact ⟨_, (Blk.new1 _ _ _ _).alloc _, own_of_blk (by rw [h3]; exact (((Blk.new w1 _ _).alloc _).alloc _)) (Nat.le_refl _) (by simp) (by decide)⟩
  rintro e w2 ⟨rfl, hW, hK⟩
  clear hx0 hx1 hx2 hx3 hx4
  have K2 := Lib.hid ((KeptB.of_kept0 (base := w1.heap.size) (T := wrT) ((((Kept.refl [] w1).alloc _).alloc _).alloc _)).trans hK)
  have HW2 := Lib.hid hW
  clear hW hK
  have hlt2 := Nat.lt_of_lt_of_le hlt K2.out.size
  have hx9 := (HX1.out.keptBlt K2.out hlt).cell 9
  have hx10 := (HX1.out.keptBlt K2.out hlt).cell 10
  simp only [List.getElem?_cons_zero, List.getElem?_cons_succ] at hx9 hx10
  go_upto_if 38 with (fail)
  go_cut [6] (fun o wx => o = .int .u8 (((ovB F.over).toNat : Nat) : Int) ∧ wx = w2)
  case first =>
    go_wp2_with fail
    · go_meet
      exact ⟨by have h : F.over = true := by assumption
                rw [h]; rfl, rfl⟩
    · go_meet
      exact ⟨by have h : F.over = false := by first | assumption | simpa using ‹¬ F.over = true›
                rw [h]; rfl, rfl⟩
  case rest =>
  obtain ⟨rfl, rfl⟩ := hcut
  obtain ⟨v, hblk, hown⟩ := HW2.out.ex
  have d0 := hblk.cell 0
  simp only [List.getElem?_cons_zero] at d0
  have hpl := hblk.lt
  have HBL := Lib.hid hblk
  have HO := Lib.hid hown
  have NE := Lib.hid (own_ne_blk hown hblk (by decide))
  clear hblk hown
  go_upto_region 10 with (first | (at_builtin; refine wpList_app _ rfl (.tmp 45) (.tmp 47) _ rfl 5 (.int .u8 0) 1 1 Try.underlying25 infoU8 rfl (by decide) w1.heap.size v _ _ rfl (HO.out.alloc _) (some ⟨_, 0, none⟩) 1 1 ([ovB F.over].map byteV) rfl (by simp) (Reads.of_blk (Blk.new _ _ _) (fun _ _ h => h)) (by simp [byteV, Value.oneCell']) (by simp [fours_length]) (by simp [fours_length, maxLen]) (by have := K2.out.size; simp; omega) ?_; intro v2 w3 hown2 hk2 hb2; obtain ⟨A4, N4, c4, rfl⟩ := own_slice hown2; have d2 := ((HBL.out.alloc _).kept hk2 (by have := NE.out; simpa using this)).cell 0; have f2 := ((HBL.out.alloc _).kept hk2 (by have := NE.out; simpa using this)).frozen 0; simp only [List.getElem?_cons_zero] at d2; have O2 := Lib.hid hown2; have K3 := Lib.hid hk2; clear hk2 hown2 hb2))
  obtain ⟨a1, a2⟩ := WrAt.put HBL.out HO.out ((Kept.refl [] _).alloc _) K3.out O2.out rfl (Nat.le_succ _) K2.out
  generalize w3.setCell ⟨w1.heap.size + 1, 0, none⟩ (.slice A4 N4 c4) = w4 at a1 a2 ⊢
  have HW3 := Lib.hid a1
  have K4 := Lib.hid a2
  clear a1 a2 d0 d2 f2 hx9 hx10 hlt2 hpl HBL HO NE O2 K3 K2 HW2
  have hlt2 := Nat.lt_of_lt_of_le hlt K4.out.size
  have hx9 := (HX1.out.keptBlt K4.out hlt).cell 9
  simp only [List.getElem?_cons_zero, List.getElem?_cons_succ] at hx9
  go_wp2_with fail
  refine (weight_new _ _ _ [F.n] 1 1 _ HW3.out (Nat.le_succ _) K4.out.size rfl (by simp [fours_length])).mono ?_
  rintro e w5 ⟨rfl, hW, hK⟩
  have K5 := Lib.hid (K4.out.trans hK)
  have HW5 := Lib.hid hW
  clear hW hK hx9 hlt2 HW3 K4
  have hlt2 := Nat.lt_of_lt_of_le hlt K5.out.size
  have hx5 := (HX1.out.keptBlt K5.out hlt).cell 5
  have hx6 := (HX1.out.keptBlt K5.out hlt).cell 6
  simp only [List.getElem?_cons_zero, List.getElem?_cons_succ] at hx5 hx6
  go_wp2_with fail
  refine (wfour_new _ _ _ [F.vn, F.items.length] 2 2 _ HW5.out (Nat.le_succ _) K5.out.size rfl (by simp [fours_length, eights_length])).mono ?_
  rintro e w6 ⟨rfl, hW, hK⟩
  have K6 := Lib.hid (K5.out.trans hK)
  have HW6 := Lib.hid (show WrAt w6 (w1.heap.size + 1) w1.heap.size F.headB from hW)
  clear hW hK hx5 hx6 hlt2 HW5 K5
  have hlt2 := Nat.lt_of_lt_of_le hlt K6.out.size
  have hx6 := (HX1.out.keptBlt K6.out hlt).cell 6
  simp only [List.getElem?_cons_zero, List.getElem?_cons_succ] at hx6
  go_wp2_with fail
  go_loopw [70] (fun i wr => ∃ k : Nat, k ≤ F.items.length ∧ i = .int .i64 k ∧ Hid (WrAt wr (w1.heap.size + 1) w1.heap.size (F.headB ++ (F.items.take k).flatMap itemB)) ∧ Hid (KeptB w1.heap.size wrT w1 wr)) (fun i _ => F.items.length - (intOf i).toNat)
  case atStart => exact ⟨0, Nat.zero_le _, rfl, Lib.hid (by simpa using HW6.out), K6⟩
  case round =>
    obtain ⟨k, hk, rfl, HWR, KR⟩ := hrel
    have hll := HS.out.items
    by_cases hlt1 : k < F.items.length
    · have HFR := HF.out.items.kept0 ((Kept.refl [] w1).thenB KR.out (Nat.le_refl _))
      obtain ⟨bb, off, rfl, hbl, s0, s1⟩ := read_at HFR hlt1
      have LEN := Lib.hid (show (F.headB ++ (F.items.take k).flatMap itemB).length + 100 ≤ 1073741824 by
        have := HS.out.items; have := HS.out.sums; have := HS.out.trips
        simp only [List.length_append, headB_length, fours_length, flatB_length _ _ itemB_length, flatB_length _ _ sumB_length, flatB_length _ _ tripB_length, List.length_cons, List.length_nil, List.length_take]
        omega)
      clear HFR hx6
      go_wp2_with fail
      refine (wfour_box _ _ _ [F.items[k].1] 1 1 wr _ HWR.out (Nat.le_succ _) KR.out.size rfl (by have := LEN.out; omega)).mono ?_
      rintro e wa ⟨rfl, hW, hK⟩
      have HBX := Lib.hid ((Blk.new wr 99 [.int .i64 F.items[k].1, .int .i64 F.items[k].2]).keptB (T := wrT) hK (by decide))
      have KA := Lib.hid (KR.out.trans ((KeptB.of_kept0 ((Kept.refl [] wr).alloc _)).trans hK))
      have HWA := Lib.hid hW
      clear hW hK
      have y1 := HBX.out.cell 1
      simp only [List.getElem?_cons_zero, List.getElem?_cons_succ] at y1
      have hla := HBX.out.lt
      go_wp2_with fail
      refine (weight_new _ _ _ [F.items[k].2] 1 1 _ HWA.out (Nat.le_succ _) KA.out.size rfl (by have := LEN.out; simp only [List.length_append, fours_length, eights_length, List.length_cons, List.length_nil] at *; omega)).mono ?_
      rintro e wb ⟨rfl, hW, hK⟩
      have KB := Lib.hid (KA.out.trans hK)
      have HWB := Lib.hid hW
      clear hW hK y1 hla
      go_wp2_with fail
      go_roundw
      case rel =>
        exact ⟨k + 1, by omega, by go_num, Lib.hid (by rw [flatB_take _ hlt1]; simpa only [itemB, List.append_assoc] using HWB.out), KB⟩
      case measure => simp [intOf]; omega
    · have : k = F.items.length := by omega
      subst this
      rw [List.take_length] at HWR
      clear hlt1 hll hx6
      have hltR := Nat.lt_of_lt_of_le hlt KR.out.size
      have hx7 := (HX1.out.keptBlt KR.out hlt).cell 7
      simp only [List.getElem?_cons_zero, List.getElem?_cons_succ] at hx7
      go_wp2_with fail
      refine (wfour_new _ _ _ [(F.sums.length : Int)] 1 1 _ HWR.out (Nat.le_succ _) KR.out.size rfl (by
        have := HS.out.items; have := HS.out.sums; have := HS.out.trips
        simp only [List.length_append, headB_length, fours_length, flatB_length _ _ itemB_length, flatB_length _ _ sumB_length, flatB_length _ _ tripB_length, List.length_cons, List.length_nil]
        omega)).mono ?_
      rintro e wc ⟨rfl, hW, hK⟩
      have Kwc := Lib.hid (KR.out.trans hK)
      have Hwc := Lib.hid hW
      clear hW hK hx7 hltR hlt2 HWR KR K6 HW6
      have hlt2 := Nat.lt_of_lt_of_le hlt Kwc.out.size
      have hx7 := (HX1.out.keptBlt Kwc.out hlt).cell 7
      simp only [List.getElem?_cons_zero, List.getElem?_cons_succ] at hx7
      go_wp2_with fail
      go_loopw [94] (fun i wr => ∃ k : Nat, k ≤ F.sums.length ∧ i = .int .i64 k ∧ Hid (WrAt wr (w1.heap.size + 1) w1.heap.size (F.headB ++ F.items.flatMap itemB ++ fours [(F.sums.length : Int)] ++ (F.sums.take k).flatMap sumB)) ∧ Hid (KeptB w1.heap.size wrT w1 wr)) (fun i _ => F.sums.length - (intOf i).toNat)
      case atStart => exact ⟨0, Nat.zero_le _, rfl, Lib.hid (by simpa using Hwc.out), Kwc⟩
      case round =>
        obtain ⟨k, hk, rfl, HWR, KR⟩ := hrel
        have hll := HS.out.sums
        by_cases hlt1 : k < F.sums.length
        · have HFR := HF.out.sums.kept0 ((Kept.refl [] w1).thenB KR.out (Nat.le_refl _))
          obtain ⟨bb, off, rfl, hbl, s0, s1, s2⟩ := sum_at HFR hlt1
          have LEN := Lib.hid (show (F.headB ++ F.items.flatMap itemB ++ fours [(F.sums.length : Int)] ++ (F.sums.take k).flatMap sumB).length + 100 ≤ 1073741824 by
            have := HS.out.items; have := HS.out.sums; have := HS.out.trips
            simp only [List.length_append, headB_length, fours_length, flatB_length _ _ itemB_length, flatB_length _ _ sumB_length, flatB_length _ _ tripB_length, List.length_cons, List.length_nil, List.length_take]
            omega)
          clear HFR hx7
          go_wp2_with fail
          refine (wfour_box _ _ _ [F.sums[k].1] 1 1 wr _ HWR.out (Nat.le_succ _) KR.out.size rfl (by have := LEN.out; omega)).mono ?_
          rintro e wa ⟨rfl, hW, hK⟩
          have HBX := Lib.hid ((Blk.new wr 103 [.int .i64 F.sums[k].1, .int .i64 F.sums[k].2.1, .int .u64 (F.sums[k].2.2 : Int)]).keptB (T := wrT) hK (by decide))
          have KA := Lib.hid (KR.out.trans ((KeptB.of_kept0 ((Kept.refl [] wr).alloc _)).trans hK))
          have HWA := Lib.hid hW
          clear hW hK
          have y1 := HBX.out.cell 1
          have y2 := HBX.out.cell 2
          simp only [List.getElem?_cons_zero, List.getElem?_cons_succ] at y1 y2
          have hla := HBX.out.lt
          go_wp2_with fail
          refine (weight_new _ _ _ [F.sums[k].2.1, wrap64 (F.sums[k].2.2 : Int)] 2 2 _ HWA.out (Nat.le_succ _) KA.out.size rfl (by have := LEN.out; simp only [List.length_append, fours_length, eights_length, List.length_cons, List.length_nil] at *; omega)).mono ?_
          rintro e wb ⟨rfl, hW, hK⟩
          have KB := Lib.hid (KA.out.trans hK)
          have HWB := Lib.hid hW
          clear hW hK y1 y2 hla
          go_wp2_with fail
          go_roundw
          case rel =>
            exact ⟨k + 1, by omega, by go_num, Lib.hid (by rw [flatB_take _ hlt1]; have := HWB.out; rw [eights_wrap] at this; simpa only [sumB, List.append_assoc] using this), KB⟩
          case measure => simp [intOf]; omega
        · have : k = F.sums.length := by omega
          subst this
          rw [List.take_length] at HWR
          clear hlt1 hll hx7
          have hltR := Nat.lt_of_lt_of_le hlt KR.out.size
          have hx8 := (HX1.out.keptBlt KR.out hlt).cell 8
          simp only [List.getElem?_cons_zero, List.getElem?_cons_succ] at hx8
          go_wp2_with fail
          refine (wfour_new _ _ _ [(F.trips.length : Int)] 1 1 _ HWR.out (Nat.le_succ _) KR.out.size rfl (by
            have := HS.out.items; have := HS.out.sums; have := HS.out.trips
            simp only [List.length_append, headB_length, fours_length, flatB_length _ _ itemB_length, flatB_length _ _ sumB_length, flatB_length _ _ tripB_length, List.length_cons, List.length_nil]
            omega)).mono ?_
          rintro e wd ⟨rfl, hW, hK⟩
          have Kwd := Lib.hid (KR.out.trans hK)
          have Hwd := Lib.hid hW
          clear hW hK hx8 hltR hlt2 HWR KR Kwc Hwc
          have hlt2 := Nat.lt_of_lt_of_le hlt Kwd.out.size
          have hx8 := (HX1.out.keptBlt Kwd.out hlt).cell 8
          simp only [List.getElem?_cons_zero, List.getElem?_cons_succ] at hx8
          go_wp2_with fail
          go_loopw [123] (fun i wr => ∃ k : Nat, k ≤ F.trips.length ∧ i = .int .i64 k ∧ Hid (WrAt wr (w1.heap.size + 1) w1.heap.size (F.headB ++ F.items.flatMap itemB ++ fours [(F.sums.length : Int)] ++ F.sums.flatMap sumB ++ fours [(F.trips.length : Int)] ++ (F.trips.take k).flatMap tripB)) ∧ Hid (KeptB w1.heap.size wrT w1 wr)) (fun i _ => F.trips.length - (intOf i).toNat)
          case atStart => exact ⟨0, Nat.zero_le _, rfl, Lib.hid (by simpa using Hwd.out), Kwd⟩
          case round =>
            obtain ⟨k, hk, rfl, HWR, KR⟩ := hrel
            have hll := HS.out.trips
            by_cases hlt1 : k < F.trips.length
            · have HFR := HF.out.trips.kept0 ((Kept.refl [] w1).thenB KR.out (Nat.le_refl _))
              obtain ⟨bb, off, rfl, hbl, s0, s1, s2⟩ := trip_at HFR hlt1
              have LEN := Lib.hid (show (F.headB ++ F.items.flatMap itemB ++ fours [(F.sums.length : Int)] ++ F.sums.flatMap sumB ++ fours [(F.trips.length : Int)] ++ (F.trips.take k).flatMap tripB).length + 100 ≤ 1073741824 by
                have := HS.out.items; have := HS.out.sums; have := HS.out.trips
                simp only [List.length_append, headB_length, fours_length, flatB_length _ _ itemB_length, flatB_length _ _ sumB_length, flatB_length _ _ tripB_length, List.length_cons, List.length_nil, List.length_take]
                omega)
              clear HFR hx8
              go_wp2_with fail
              refine (wfour_box _ _ _ [F.trips[k].1, F.trips[k].2.1] 2 2 wr _ HWR.out (Nat.le_succ _) KR.out.size rfl (by have := LEN.out; omega)).mono ?_
              rintro e wa ⟨rfl, hW, hK⟩
              have HBX := Lib.hid ((Blk.new wr 105 [.int .i64 F.trips[k].1, .int .i64 F.trips[k].2.1, .int .i64 F.trips[k].2.2]).keptB (T := wrT) hK (by decide))
              have KA := Lib.hid (KR.out.trans ((KeptB.of_kept0 ((Kept.refl [] wr).alloc _)).trans hK))
              have HWA := Lib.hid hW
              clear hW hK
              have y2 := HBX.out.cell 2
              simp only [List.getElem?_cons_zero, List.getElem?_cons_succ] at y2
              have hla := HBX.out.lt
              go_wp2_with fail
              refine (weight_new _ _ _ [F.trips[k].2.2] 1 1 _ HWA.out (Nat.le_succ _) KA.out.size rfl (by have := LEN.out; simp only [List.length_append, fours_length, eights_length, List.length_cons, List.length_nil] at *; omega)).mono ?_
              rintro e wb ⟨rfl, hW, hK⟩
              have KB := Lib.hid (KA.out.trans hK)
              have HWB := Lib.hid hW
              clear hW hK y2 hla
              go_wp2_with fail
              go_roundw
              case rel =>
                exact ⟨k + 1, by omega, by go_num, Lib.hid (by rw [flatB_take _ hlt1]; simpa only [tripB, List.append_assoc] using HWB.out), KB⟩
              case measure => simp [intOf]; omega
            · have : k = F.trips.length := by omega
              subst this
              rw [List.take_length] at HWR
              clear hlt1 hll hx8
              have hltR := Nat.lt_of_lt_of_le hlt KR.out.size
              obtain ⟨v9, hb9, ho9⟩ := HWR.out.ex
              have d9 := hb9.cell 0
              simp only [List.getElem?_cons_zero] at d9
              have O9 := Lib.hid ho9
              clear hb9 ho9
              go_wp2_with fail
              go_ret2
              exact ⟨_, rfl, own_base O9.out K1.out.size, K1.out.trans ((Kept.refl [] w1).thenB KR.out (Nat.le_refl _))⟩
end Go.Proofs.Ytdjidnccockmmaa
