/- Loader: numbers' bytes; the library's Concat and Equal on bytes. -/
import Derived.Test.YtibjpjpbmkdddaaLp
import Derived.Test.YtibjpjpbmkdddaaE11
import Derived.Lib.AppendZeros
namespace Go.Proofs.Ytibjpjpbmkdddaa
set_option linter.unusedSimpArgs false
set_option linter.unusedVariables false
open Go.ChangeShapes Go.WideShapes Go.ChangeAt Go.RowKit
open Go.RowKit (wrap32 wrap64)
set_option maxHeartbeats 8000000

abbrev vI (x : Int) : Value := .int .i64 x
theorem int_at {w : World} {A : Option Addr} {l : List Int} (h : Reads w A (l.map vI)) {k : Nat} (hk : k < l.length) :
    ∃ b off, A = some ⟨b, off, none⟩ ∧ b < w.heap.size ∧ w.cell? ⟨b, off + k, none⟩ = some (.int .i64 l[k]) := by
  obtain ⟨b, off, e, hb, hc⟩ := h (by intro h0; rw [List.map_eq_nil_iff] at h0; rw [h0] at hk; simp at hk)
  exact ⟨b, off, e, hb, hc k _ (by rw [List.getElem?_map, List.getElem?_eq_getElem hk]; rfl)⟩
theorem bytes_ones (l : List UInt8) : ∀ u ∈ l.map byteV, u.oneCell' = true := by simp [byteV, Value.oneCell']
/-- Bytes that the call made, however long they are said to be. -/
def OwnB (w : World) (base : Nat) (v : Value) (l : List UInt8) : Prop := w.ownsRow base 5 1 v l.length (l.map byteV)
theorem OwnB.app {w : World} {base : Nat} {v : Value} {l m : List UInt8} {k : Nat} (h : w.ownsRow base 5 1 v (l.length + k) (l.map byteV ++ m.map byteV)) (hk : k = m.length) : OwnB w base v (l ++ m) := by
  unfold OwnB
  subst hk
  rw [List.length_append, List.map_append]
  exact h
theorem OwnB.kept0 {w w' : World} {base : Nat} {v : Value} {l : List UInt8} (h : OwnB w base v l) (hk : Kept [] w w') : OwnB w' base v l := own_kept h hk (fun _ _ => by simp)
theorem OwnB.nil (w : World) (base : Nat) : OwnB w base (.slice none 0 0) [] := World.ownsRow_nil _ _ _ _
set_option maxRecDepth 100000 in
theorem lfour_any (ns : List Int) (A : Option Addr) (n c : Nat) (w : World) (hn : ns.length = n) (hl : n ≤ 1048576) (hA : Reads w A (ns.map vI)) :
    Calls Try.prog 32 #[.slice A n c] w fun e w' => ∃ v, e = .returned v ∧ OwnB w' w.heap.size v (fours ns) ∧ Kept [] w w' := by
  subst hn
  have HA := Lib.hid hA
  have HL := Lib.hid hl
  clear hA
  go_enter Try.func32, Try.ntmps32
  go_wp2_with fail
  go_loopw [3, 8] (fun v i wr => ∃ k : Nat, k ≤ ns.length ∧ i = .int .i64 k ∧ Hid (OwnB wr w.heap.size v (fours (ns.take k))) ∧ Hid (Kept [] w wr)) (fun _ i _ => ns.length - (intOf i).toNat)
  case atStart => exact ⟨0, Nat.zero_le _, rfl, Lib.hid (OwnB.nil _ _), Lib.hid (Kept.refl _ _)⟩
  case round =>
    obtain ⟨k, hk, rfl, HO, HK⟩ := hrel
    obtain ⟨v, hv⟩ : ∃ v, v = u3 := ⟨_, rfl⟩
    subst hv
    by_cases hlt : k < ns.length
    · obtain ⟨b, off, rfl, hbl, c0⟩ := int_at (HA.out.kept0 HK.out) hlt
      obtain ⟨A3, N3, c3, rfl⟩ := own_slice HO.out
      go_wp2_with fail
      rw [show ns[k] % 4294967296 = ((u32of ns[k] : Nat) : Int) by unfold u32of; omega]
      refine (put32_any (u32of ns[k]) _ (u32of_lt _)).mono ?_
      rintro e w1 ⟨rfl, hblk, hk1⟩
      have HN := Lib.hid hblk
      have HO1 := Lib.hid (HO.out.kept0 hk1)
      have K1 := Lib.hid (HK.out.trans hk1)
      have hll : (fours (ns.take k)).length = 4 * k := by rw [fours_length, List.length_take, Nat.min_eq_left hk]
      have B1 := Lib.hid (show ((fours (ns.take k)).length + 4) * 1 ≤ 140737488355328 by rw [hll]; have := HL.out; omega)
      have B2 := Lib.hid (show (fours (ns.take k)).length + 4 ≤ maxLen by rw [hll]; have := HL.out; unfold maxLen; omega)
      have BW := Lib.hid K1.out.size
      clear hblk hk1 c0 hbl hll
      go_wp2_with (first | (at_builtin; refine wpList_app _ rfl (.tmp 12) (.tmp 15) _ rfl 5 (.int .u8 0) 1 1 Try.underlying31 infoU8 rfl (by decide) w.heap.size (.slice A3 N3 c3) _ _ rfl HO1.out (some ⟨_, 0, none⟩) 4 4 ((le (u32of ns[k]) 4).map byteV) rfl (by simp [le_length]) (Reads.of_blk HN.out (fun _ _ h => h)) (bytes_ones _) B1.out B2.out BW.out ?_; intro va wa howna hka hba; have HOa := Lib.hid (OwnB.app howna (by rw [le_length])); have Ka := Lib.hid (K1.out.app hka HO1.out); clear howna hka hba))
      go_roundw
      case rel => exact ⟨k + 1, by omega, by go_num, Lib.hid (by rw [fours_take ns hlt]; exact HOa.out), Ka⟩
      case measure => simp [intOf]; omega
    · go_wp2_with fail
      go_ret
      have : k = ns.length := by omega
      subst this
      rw [List.take_length] at HO
      exact ⟨_, rfl, HO.out, HK.out⟩
theorem growB_any (n : Nat) (w : World) (hn : n ≤ 1048576) :
    Calls Try.prog 111 #[.slice none 0 0, .int .i64 n] w fun e w' => ∃ v, e = .returned v ∧ w'.ownsRow w.heap.size 5 1 v 0 [] ∧ Kept [] w w' := by
  by_cases h0 : 0 < n
  · have hi : ∃ i : TypeInfo, Try.prog.info? 5 = some i ∧ i.zero = some (.int .u8 0) ∧ i.size = 1 ∧ i.bytes = 1 := by
      have h := infoU8
      unfold Info at h
      cases hq : Try.prog.info? 5 with
      | none => rw [hq] at h; cases h
      | some i => rw [hq] at h; simp at h; exact ⟨i, rfl, h.1, h.2.1, h.2.2⟩
    obtain ⟨i, hi, hz, hsz, hby⟩ := hi
    have hrz := fun ty => Lib.run_append_nil_zeros (P := Try.prog) w 31 3 ty 5 i _ .i64 .i64 Try.underlying31 Try.underlying3 hi hz n h0 (by omega) (by omega) (by rw [hby]; omega)
    have hge := grownCap_ge w n 0 5
    have hle := grownCap_le_maxLen w n 0 5 (by unfold maxLen; omega)
    generalize grownCap w n 0 5 = G at *
    unfold maxLen at hle
    have HO := Lib.hid (World.ownsRow_made (base := w.heap.size) (e := 5) (size := 1) w.drew (Builtin.zeroCells (Value.int IntKind.u8 0).cells n ++ Builtin.zeroCells (Value.int IntKind.u8 0).cells (G - n)) G (Nat.le_refl _) (by unfold maxLen; omega) (by simp [size_zeroCells, Value.cells]; omega))
    have K0 := Lib.hid (((Kept.refl [] w).drew).alloc (.cells (Builtin.zeroCells (Value.int IntKind.u8 0).cells n ++ Builtin.zeroCells (Value.int IntKind.u8 0).cells (G - n)) 5))
    clear hi hz hsz hby
    go_enter Try.func111, Try.ntmps111
    go_wp2_with (at_builtin; refine Lib.wpList_append_run _ rfl _ _ _ _ rfl _ _ rfl rfl _ _ (hrz _) ?_)
    go_ret
    exact ⟨_, rfl, HO.out, K0.out⟩
  · obtain rfl : n = 0 := by omega
    go_enter Try.func111, Try.ntmps111
    go_wp2_with fail
    go_ret
    exact ⟨_, rfl, World.ownsRow_nil _ _ _ _, Kept.refl _ _⟩
def sz (a b c : Nat) : Nat → Nat
  | 0 => 0
  | 1 => a
  | 2 => a + b
  | _ => a + b + c
def parts (l0 l1 l2 : List UInt8) : Nat → List UInt8
  | 0 => []
  | 1 => l0
  | 2 => l0 ++ l1
  | _ => l0 ++ l1 ++ l2
set_option maxRecDepth 100000 in
theorem concatB_any (l0 l1 l2 : List UInt8) (A0 A1 A2 : Option Addr) (c0 c1 c2 g : Nat) (w : World) (hs : l0.length + l1.length + l2.length ≤ 1048576) (h0 : Reads w A0 (l0.map byteV)) (h1 : Reads w A1 (l1.map byteV)) (h2 : Reads w A2 (l2.map byteV)) (hg : Blk w g 31 [.slice A0 l0.length c0, .slice A1 l1.length c1, .slice A2 l2.length c2]) :
    Calls Try.prog 70 #[.slice (some ⟨g, 0, none⟩) 3 3] w fun e w' => ∃ v, e = .returned v ∧ OwnB w' w.heap.size v (l0 ++ l1 ++ l2) ∧ Kept [] w w' := by
  have H0 := Lib.hid h0
  have H1 := Lib.hid h1
  have H2 := Lib.hid h2
  have HG := Lib.hid hg
  have B0 := Lib.hid (show (([] : List UInt8).length + l0.length) * 1 ≤ 140737488355328 by simp only [List.length_nil]; omega)
  have BB0 := Lib.hid (show ([] : List UInt8).length + l0.length ≤ maxLen by unfold maxLen; simp only [List.length_nil]; omega)
  have B1 := Lib.hid (show (l0.length + l1.length) * 1 ≤ 140737488355328 by omega)
  have BB1 := Lib.hid (show l0.length + l1.length ≤ maxLen by unfold maxLen; omega)
  have B2 := Lib.hid (show ((l0 ++ l1).length + l2.length) * 1 ≤ 140737488355328 by rw [List.length_append]; omega)
  have BB2 := Lib.hid (show (l0 ++ l1).length + l2.length ≤ maxLen by unfold maxLen; rw [List.length_append]; omega)
  clear h0 h1 h2 hg
  go_enter Try.func70, Try.ntmps70
  go_wp2_with fail
  go_loopw [3, 11] (fun v3 i wr => ∃ k : Nat, k ≤ 3 ∧ i = .int .i64 k ∧ v3 = .int .i64 (sz l0.length l1.length l2.length k) ∧ wr = w) (fun _ i _ => 3 - (intOf i).toNat)
  case atStart => exact ⟨0, by omega, rfl, rfl, rfl⟩
  case round =>
    obtain ⟨k, hk, rfl, rfl, hww⟩ := hrel
    replace hww := hww.symm
    subst hww
    have d0 := HG.out.cell 0
    have d1 := HG.out.cell 1
    have d2 := HG.out.cell 2
    have hgl := HG.out.lt
    simp only [List.getElem?_cons_zero, List.getElem?_cons_succ] at d0 d1 d2
    rcases (show k = 0 ∨ k = 1 ∨ k = 2 ∨ k = 3 by omega) with rfl | rfl | rfl | rfl
    · simp only [sz]
      go_wp2_with fail
      go_roundw
      case rel => refine ⟨1, by omega, rfl, ?_⟩; simp [sz]
      case measure => simp [intOf]
    · simp only [sz]
      go_wp2_with fail
      go_roundw
      case rel => refine ⟨2, by omega, rfl, ?_⟩; simp [sz]
      case measure => simp [intOf]
    · simp only [sz]
      go_wp2_with fail
      go_roundw
      case rel => refine ⟨3, by omega, rfl, ?_⟩; simp [sz]
      case measure => simp [intOf]
    · simp only [sz]
      go_wp2_with fail
      refine (growB_any (l0.length + l1.length + l2.length) _ hs).mono ?_
      rintro _ w3 ⟨v, rfl, ho, hk3⟩
      have HO := Lib.hid (show OwnB w3 w.heap.size v [] from ho)
      have K3 := Lib.hid hk3
      clear ho hk3 d0 d1 d2 hgl
      go_wp2_with fail
      go_loopw [6, 27] (fun v6 i wr => ∃ k : Nat, k ≤ 3 ∧ i = .int .i64 k ∧ Hid (OwnB wr w.heap.size v6 (parts l0 l1 l2 k)) ∧ Hid (Kept [] w wr)) (fun _ i _ => 3 - (intOf i).toNat)
      case atStart => exact ⟨0, by omega, rfl, HO, K3⟩
      case round =>
        clear HO K3
        obtain ⟨k, hk, rfl, HO, K3⟩ := hrel
        have HG3 := Lib.hid (HG.out.kept K3.out (by simp))
        have d0 := HG3.out.cell 0
        have d1 := HG3.out.cell 1
        have d2 := HG3.out.cell 2
        have hgl := HG3.out.lt
        have hsz := K3.out.size
        simp only [List.getElem?_cons_zero, List.getElem?_cons_succ] at d0 d1 d2
        obtain ⟨v6, hv6⟩ : ∃ v6, v6 = u6 := ⟨_, rfl⟩
        subst hv6
        rcases (show k = 0 ∨ k = 1 ∨ k = 2 ∨ k = 3 by omega) with rfl | rfl | rfl | rfl
        · simp only [parts] at HO
          obtain ⟨A6, N6, c6, rfl⟩ := own_slice HO.out
          go_wp2_with (first | (at_builtin; refine wpList_app _ rfl (.tmp 31) (.tmp 32) _ rfl 5 (.int .u8 0) 1 1 Try.underlying31 infoU8 rfl (by decide) w.heap.size (.slice A6 N6 c6) _ _ rfl HO.out A0 l0.length c0 (l0.map byteV) rfl (by simp) (H0.out.kept0 K3.out) (bytes_ones _) B0.out BB0.out hsz ?_; intro va wa howna hka hba; have HOa := Lib.hid (OwnB.app howna rfl); have Ka := Lib.hid (K3.out.app hka HO.out); clear howna hka hba))
          go_roundw
          case rel =>
            refine ⟨1, by omega, rfl, Lib.hid ?_, Ka⟩
            simp only [parts]
            exact HOa.out
          case measure => simp [intOf]
        · simp only [parts] at HO
          obtain ⟨A6, N6, c6, rfl⟩ := own_slice HO.out
          go_wp2_with (first | (at_builtin; refine wpList_app _ rfl (.tmp 31) (.tmp 32) _ rfl 5 (.int .u8 0) 1 1 Try.underlying31 infoU8 rfl (by decide) w.heap.size (.slice A6 N6 c6) _ _ rfl HO.out A1 l1.length c1 (l1.map byteV) rfl (by simp) (H1.out.kept0 K3.out) (bytes_ones _) B1.out BB1.out hsz ?_; intro va wa howna hka hba; have HOa := Lib.hid (OwnB.app howna rfl); have Ka := Lib.hid (K3.out.app hka HO.out); clear howna hka hba))
          go_roundw
          case rel =>
            refine ⟨2, by omega, rfl, Lib.hid ?_, Ka⟩
            simp only [parts]
            exact HOa.out
          case measure => simp [intOf]
        · simp only [parts] at HO
          obtain ⟨A6, N6, c6, rfl⟩ := own_slice HO.out
          go_wp2_with (first | (at_builtin; refine wpList_app _ rfl (.tmp 31) (.tmp 32) _ rfl 5 (.int .u8 0) 1 1 Try.underlying31 infoU8 rfl (by decide) w.heap.size (.slice A6 N6 c6) _ _ rfl HO.out A2 l2.length c2 (l2.map byteV) rfl (by simp) (H2.out.kept0 K3.out) (bytes_ones _) B2.out BB2.out hsz ?_; intro va wa howna hka hba; have HOa := Lib.hid (OwnB.app howna rfl); have Ka := Lib.hid (K3.out.app hka HO.out); clear howna hka hba))
          go_roundw
          case rel =>
            refine ⟨3, by omega, rfl, Lib.hid ?_, Ka⟩
            simp only [parts]
            exact HOa.out
          case measure => simp [intOf]
        · simp only [parts] at HO
          go_wp2_with fail
          go_ret
          exact ⟨_, rfl, HO.out, K3.out⟩
end Go.Proofs.Ytibjpjpbmkdddaa
