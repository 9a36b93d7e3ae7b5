/- 'OctetBack' returns true for every n, m, and part. Conditions: none. -/
import Derived.Test.YtdjidnccockmmaaOct15
import Derived.Test.YtdjidnccockmmaaOpen2
import Derived.Test.YtdjidnccockmmaaLaw1
namespace Go.Proofs.Ytdjidnccockmmaa
open Go.ChangeShapes Go.WideShapes Go.ChangeAt Go.RowKit
open Go.RowKit (wrap32 wrap64)
set_option maxHeartbeats 2000000

/-- A read within the bytes, with nothing wrong. -/
theorem rd_read {b : List UInt8} {pos k : Nat} {x : List UInt8} {y : List UInt8} (hd : b.drop pos = x ++ y) (hx : x.length = k) (hp : pos ≤ b.length) :
    (Rd.mk b pos 0 0).got k = x ∧ (Rd.mk b pos 0 0).after k = Rd.mk b (pos + k) 0 0 ∧ b.drop (pos + k) = y := by
  have hl : b.length - pos = x.length + y.length := by rw [← List.length_drop, hd, List.length_append]
  have hc : (Rd.mk b pos 0 0).can k := by
    refine ⟨rfl, Int.natCast_nonneg _, ?_⟩
    show (k : Int) ≤ (b.length : Int) - pos
    omega
  refine ⟨?_, ?_, ?_⟩
  · unfold Rd.got
    rw [if_pos hc]
    show (b.drop pos).take (k : Int).toNat = x
    rw [hd, Int.toNat_natCast, ← hx, List.take_left]
  · rw [Rd.after_can hc, Int.toNat_natCast]
  · rw [← List.drop_drop, hd, ← hx, List.drop_left]

/-- What 'OctetBack' lays one behind the other. -/
def laid (n : Nat) (m : Int) (x y : List UInt8) : List UInt8 := x ++ (le n 4 ++ (le (u64of m) 8 ++ (le (n % 256) 1 ++ y)))
theorem laid_length (n : Nat) (m : Int) (x y : List UInt8) : (laid n m x y).length = x.length + 13 + y.length := by
  simp only [laid, List.length_append, le_length]; omega

set_option maxRecDepth 100000 in
theorem octetBack_walk (n : Nat) (m : Int) (x y : List UInt8) (A B : Option Addr) (c d : Nat) (w : World) (hn : n < 4294967296) (hm : In64 m) (hlx : x.length ≤ maxLen) (hly : y.length ≤ maxLen) (hr : Reads w A (x.map byteV)) (hrq : Reads w B (y.map byteV)) :
    Calls Try.prog 4 #[.int .u32 (n : Int), .int .i64 m, .agg #[.slice A x.length c, .slice B y.length d]] w fun e w' => e = .returned (.bool true) ∧ Kept [] w w' := by
  unfold maxLen at hlx hly
  have HR := Lib.hid hr
  have HQ := Lib.hid hrq
  have HN := Lib.hid hn
  have HM := Lib.hid hm
  clear hr hrq hn hm
  by_cases h1 : 1000 < x.length
  · go_enter Try.func4, Try.ntmps4
    go_wp2_with fail
    refine (live_any _).mono ?_
    rintro e w1 ⟨rfl, hk⟩
    have K := Lib.hid (((Kept.refl [] w).alloc _).trans hk)
    clear hk
    go_wp2_with fail
    go_ret
    exact ⟨rfl, K.out⟩
  by_cases h2 : 1000 < y.length
  · go_enter Try.func4, Try.ntmps4
    go_wp2_with fail
    refine (live_any _).mono ?_
    rintro e w1 ⟨rfl, hk⟩
    have K := Lib.hid (((Kept.refl [] w).alloc _).trans hk)
    clear hk
    go_wp2_with fail
    go_ret
    exact ⟨rfl, K.out⟩
  have hX := Blk.new w 30 [.slice A x.length c, .slice B y.length d]
  have HX := Lib.hid hX
  have HR := Lib.hid (HR.out.kept0 ((Kept.refl [] w).alloc (.cells #[.slice A x.length c, .slice B y.length d] 30)))
  have HQ := Lib.hid (HQ.out.kept0 ((Kept.refl [] w).alloc (.cells #[.slice A x.length c, .slice B y.length d] 30)))
  have hsz : (w.alloc (.cells #[.slice A x.length c, .slice B y.length d] 30)).heap.size = w.heap.size + 1 := by simp
  clear hX
  go_enter Try.func4, Try.ntmps4
  go_wp2_with (first | (at_builtin; refine wpList_app _ rfl (.tmp 20) (.tmp 22) _ rfl 5 (.int .u8 0) 1 1 Try.underlying25 infoU8 rfl (by decide) (w.heap.size + 1) (.slice none 0 0) 0 [] rfl (World.ownsRow_nil _ _ _ _) A x.length c (x.map byteV) rfl (by simp) HR.out (by simp [byteV, Value.oneCell']) (by omega) (by unfold maxLen; omega) (by simp) ?_; intro v1 w1 hown1 hk1 hb1))
  have W1 := Lib.hid (show w.heap.size + 1 ≤ w1.heap.size by have := hk1.size; omega)
  simp only [Nat.zero_add, List.nil_append] at hown1
  have K := Lib.hid (show Kept [] (w.alloc (.cells #[.slice A x.length c, .slice B y.length d] 30)) w1 from hk1)
  have O1 := Lib.hid hown1
  clear hown1 hk1 hb1
  go_wp2_with fail
  refine (put32_any n _ HN.out).mono ?_
  rintro e u2 ⟨rfl, hblk, hk⟩
  have O1 := Lib.hid (own_kept O1.out hk (fun _ _ => by simp))
  have K := Lib.hid (K.out.trans hk)
  have HB := Lib.hid hblk
  have W2 := Lib.hid (Nat.le_trans W1.out hk.size)
  clear hblk hk
  go_wp2_with (first | (at_builtin; refine wpList_app _ rfl (.tmp 24) (.tmp 26) _ rfl 5 (.int .u8 0) 1 1 Try.underlying25 infoU8 rfl (by decide) (w.heap.size + 1) v1 _ _ rfl O1.out _ 4 4 ((le n 4).map byteV) rfl (by simp [le_length]) (Reads.of_blk HB.out (fun _ _ h => h)) (by simp [byteV, Value.oneCell']) (by omega) (by unfold maxLen; omega) W2.out ?_; intro v2 w2 hown2 hk2 hb2))
  have K := Lib.hid (K.out.app hk2 (own_base O1.out (by simp)))
  have W2 := Lib.hid (Nat.le_trans W2.out hk2.size)
  have O2 := Lib.hid hown2
  clear hown2 hk2 hb2
  go_wp2_with fail
  refine (put64_any m _).mono ?_
  rintro e u3 ⟨rfl, hblk, hk⟩
  have O2 := Lib.hid (own_kept O2.out hk (fun _ _ => by simp))
  have K := Lib.hid (K.out.trans hk)
  have HB := Lib.hid hblk
  have W3 := Lib.hid (Nat.le_trans W2.out hk.size)
  clear hblk hk
  go_wp2_with (first | (at_builtin; refine wpList_app _ rfl (.tmp 28) (.tmp 30) _ rfl 5 (.int .u8 0) 1 1 Try.underlying25 infoU8 rfl (by decide) (w.heap.size + 1) v2 _ _ rfl O2.out _ 8 8 ((le (u64of m) 8).map byteV) rfl (by simp [le_length]) (Reads.of_blk HB.out (fun _ _ h => h)) (by simp [byteV, Value.oneCell']) (by omega) (by unfold maxLen; omega) W3.out ?_; intro v3 w3 hown3 hk3 hb3))
  have K := Lib.hid (K.out.app hk3 (own_base O2.out (by simp)))
  have W3 := Lib.hid (Nat.le_trans W3.out hk3.size)
  have O3 := Lib.hid hown3
  clear hown3 hk3 hb3
  go_wp2_with fail
  refine (put8_any (n % 256) _ (Nat.mod_lt _ (by decide))).mono ?_
  rintro e u4 ⟨rfl, hblk, hk⟩
  have O3 := Lib.hid (own_kept O3.out hk (fun _ _ => by simp))
  have K := Lib.hid (K.out.trans hk)
  have HB := Lib.hid hblk
  have W4 := Lib.hid (Nat.le_trans W3.out hk.size)
  clear hblk hk
  go_wp2_with (first | (at_builtin; refine wpList_app _ rfl (.tmp 32) (.tmp 35) _ rfl 5 (.int .u8 0) 1 1 Try.underlying25 infoU8 rfl (by decide) (w.heap.size + 1) v3 _ _ rfl O3.out _ 1 1 ((le (n % 256) 1).map byteV) rfl (by simp [le_length]) (Reads.of_blk HB.out (fun _ _ h => h)) (by simp [byteV, Value.oneCell']) (by omega) (by unfold maxLen; omega) W4.out ?_; intro v4 w4 hown4 hk4 hb4; have K4 := Lib.hid (K.out.app hk4 (own_base O3.out (by simp))); have W4' := Lib.hid (Nat.le_trans W4.out hk4.size); have O4 := Lib.hid hown4; have HX4 := HX.out.kept K4.out (by simp); have hx1 := HX4.cell 1; simp only [List.getElem?_cons_zero, List.getElem?_cons_succ] at hx1; have HQ4 := Lib.hid (HQ.out.kept0 K4.out); clear hown4 hk4 hb4 HX4) | (at_builtin; refine wpList_app _ rfl (.tmp 37) (.tmp 39) _ rfl 5 (.int .u8 0) 1 1 Try.underlying25 infoU8 rfl (by decide) (w.heap.size + 1) v4 _ _ rfl O4.out B y.length d (y.map byteV) rfl (by simp) HQ4.out (by simp [byteV, Value.oneCell']) (by omega) (by unfold maxLen; omega) W4'.out ?_; intro v5 w5 hown5 hk5 hb5))
  have K := Lib.hid (K4.out.app hk5 (own_base O4.out (by simp)))
  have W5 := Lib.hid (Nat.le_trans W4'.out hk5.size)
  have e : x.map byteV ++ (le n 4).map byteV ++ (le (u64of m) 8).map byteV ++ (le (n % 256) 1).map byteV ++ y.map byteV = (laid n m x y).map byteV := by simp [laid]
  rw [e] at hown5
  have e2 : x.length + 4 + 8 + 1 + y.length = (laid n m x y).length := by rw [laid_length]
  rw [e2] at hown5
  obtain ⟨A5, c5, rfl, _, _, hr5, _⟩ := own_form hown5
  have R5 := Lib.hid hr5
  clear hown5 hk5 hb5 hr5 e e2 hx1
  go_wp2_with fail
  refine (open_any (laid n m x y) A5 c5 _ R5.out (by rw [laid_length]; omega)).mono ?_
  rintro e w6 ⟨p, rfl, hp, hrp, hk⟩
  have K := Lib.hid (K.out.trans hk)
  have RP := Lib.hid (hrp.kept0 ((Kept.refl [] w6).drew))
  have HX5 := Lib.hid (HX.out.kept K.out (by simp))
  have c0 := HX5.out.cell 0
  have c1 := HX5.out.cell 1
  simp only [List.getElem?_cons_zero, List.getElem?_cons_succ] at c0 c1
  have hwp : w.heap.size < p := Nat.lt_of_lt_of_le W5.out hp
  have WL := Lib.hid (show w.heap.size < w6.drew.heap.size from Nat.lt_of_lt_of_le W5.out hk.size)
  have D1 := rd_read (b := laid n m x y) (pos := 0) (k := x.length) (x := x) rfl rfl (Nat.zero_le _)
  have D2 := rd_read D1.2.2 (k := 4) (le_length _ _) (by rw [laid_length]; omega)
  have D3 := rd_read D2.2.2 (k := 8) (le_length _ _) (by rw [laid_length]; omega)
  have D4 := rd_read D3.2.2 (k := 1) (le_length _ _) (by rw [laid_length]; omega)
  have G1 := Lib.hid D1.1
  have G2 := Lib.hid (show Rd.got _ 4 = _ from D2.1)
  have G3 := Lib.hid (show Rd.got _ 8 = _ from D3.1)
  have G4 := Lib.hid (show Rd.got _ 1 = _ from D4.1)
  have T1 := Lib.hid D1.2.1
  have T2 := Lib.hid (show Rd.after _ 4 = _ from D2.2.1)
  have T3 := Lib.hid (show Rd.after _ 8 = _ from D3.2.1)
  have T4 := Lib.hid (show Rd.after _ 1 = _ from D4.2.1)
  have N2 := Lib.hid (show n % 256 ^ 4 % 4294967296 = n by have := HN.out; omega)
  have N3 := Lib.hid (show wrap64 ((u64of m % 256 ^ 8 : Nat) : Int) = m by rw [Nat.mod_eq_of_lt (by have := u64of_lt m; unfold Lt64 at this; omega)]; exact wrap64_u64of m HM.out.1 HM.out.2)
  have N4 := Lib.hid (show n % 256 % 256 ^ 1 % 256 = n % 256 by omega)
  have N5 := Lib.hid (show ((n % 256 : Nat) : Int) = IntKind.u8.wrap (n : Int) by rw [IntKind.wrap_u8]; omega)
  have L5 := Lib.hid (show (Rd.mk (laid n m x y) (0 + x.length + 4 + 8 + 1) 0 0).left = (y.length : Int) by unfold Rd.left; simp only [laid_length]; simp; omega)
  have F3 := guardFault
  have F4 := eqFault
  clear D1 D2 D3 D4 hrp hk
  go_wp2_with fail
  go_region_held3 (fun w' => w'.cell? ⟨w.heap.size, 0, none⟩ = some (.slice A x.length c) ∧ w'.cell? ⟨w.heap.size, 1, none⟩ = some (.slice B y.length d)) (first | assumption | exact ⟨c0, c1⟩) (first | (go_at_call 12; refine (live_any _).mono ?_; rintro e wa ⟨rfl, ka⟩; have sa := box_kept ka WL.out (by simp) ⟨c0, c1⟩) | (go_at_call 21; refine (take_any p ⟨_, 0, 0, 0⟩ _ _ (RP.out.kept0 ka)).mono ?_; rintro e wb ⟨va, rfl, hown, pb, kb⟩; rw [G1.out] at hown; rw [T1.out] at pb; obtain ⟨Av, cv, rfl, _, _, rv, _⟩ := own_form hown; have sb := box_kept kb (Nat.lt_of_lt_of_le WL.out ka.size) (by simp; omega) sa) | (go_at_call 13; refine (same_is x _ _ _ _ _ _ _ rfl rfl rv (HR.out.kept0 ((K.out.drew.trans ka).then kb (by simp; omega))) (by omega)).mono ?_; rintro e wc ⟨rfl, kc, rfl⟩) | (go_at_call 22; refine (u32_any p ⟨_, _, 0, 0⟩ _ (pb.kept0 ((Kept.refl _ _).drewN _))).mono ?_; rintro e wd ⟨rfl, pd, kd⟩; rw [T2.out] at pd; rw [G2.out, num_le, N2.out]; have sd := box_kept kd (Nat.lt_of_lt_of_le WL.out (Nat.le_trans ka.size kb.size)) (by simp; omega) sb) | (go_at_call 23; refine (i64_any p ⟨_, _, 0, 0⟩ _ pd).mono ?_; rintro e we ⟨rfl, pe, ke⟩; rw [T3.out] at pe; rw [G3.out, num_le, N3.out]; have se := box_kept ke (Nat.lt_of_lt_of_le WL.out (Nat.le_trans ka.size (Nat.le_trans kb.size kd.size))) (by simp; omega) sd) | (go_at_call 24; refine (u8_any p ⟨_, _, 0, 0⟩ _ pe).mono ?_; rintro e wf ⟨rfl, pf, kf⟩; rw [T4.out] at pf; rw [G4.out, num_le, N4.out, N5.out]; have sf := box_kept kf (Nat.lt_of_lt_of_le WL.out (Nat.le_trans ka.size (Nat.le_trans kb.size (Nat.le_trans kd.size ke.size)))) (by simp; omega) se) | (go_at_call 25; refine (left_k p ⟨_, _, 0, 0⟩ _ pf).mono ?_; rintro e wg ⟨rfl, kg⟩; rw [L5.out]; have sg := box_kept kg (Nat.lt_of_lt_of_le WL.out (Nat.le_trans ka.size (Nat.le_trans kb.size (Nat.le_trans kd.size (Nat.le_trans ke.size kf.size))))) (by simp) sf) | (go_at_call 26; refine (fault_rd p ⟨_, _, 0, 0⟩ _ (pf.kept0 kg)).mono ?_; rintro e wh ⟨rfl, kh⟩; have sh := box_kept kh (Nat.lt_of_lt_of_le WL.out (Nat.le_trans ka.size (Nat.le_trans kb.size (Nat.le_trans kd.size (Nat.le_trans ke.size (Nat.le_trans kf.size kg.size)))))) (by simp) sg))
  go_wp2_with fail
  go_ret
  exact ⟨rfl, ((Kept.refl [] w).alloc _).trans ((((((((K.out.drew.trans ka).then kb (by simp; omega)).drewN kc).then kd (by simp; omega)).then ke (by simp; omega)).then kf (by simp; omega)).trans kg).trans kh)⟩

set_option maxRecDepth 100000 in
theorem octetBack_lifted (os : Os) (started : os.Started) (H : Type) (enc : TypeId × Value → H) :
    ReturnsInHanded {} Try.checked os 4 .any (Rows.octetBackSpec.pre6 enc Try.prog Try.f4 Rows.octetBackRow.domain false) (Rows.octetBackSpec.post enc Try.prog Try.f4 false true false false) := by
  refine returnsInHanded_of_change (C := Try.checked) own started (by kernel_rfl) Try.func4
    (ChangeSpec.witness6 (enc := enc) (C := Try.checked) false ⟨#[], #[.int .u32 0, .int .i64 0, .agg #[.slice none 0 0, .slice none 0 0]], []⟩ 8 (by kernel_rfl) (by kernel_rfl) (by kernel_rfl) (by kernel_rfl)) ?_
  intro W base args ds gs before hval0 hW hcnd _
  have hval : ∀ (j : Nat) t v, Try.f4.params[j]? = some t → args[j]? = some v → Value.okWide Try.prog W .any base t v := hval0
  have hW' := hW
  obtain ⟨p, q, hA0, hV, rfl, hfz, hnd⟩ := hW
  have hA : DataW.TrodAll enc Try.prog W 0 (fun _ => true) true Try.f4.params.toList args.toList ds p := hA0
  rw [Try.params4] at hA hval
  obtain ⟨v0, vs0, d0, ds0, p0, q0, hargs, rfl, rfl, h0, r0⟩ := trodAll_cons hA
  obtain ⟨v1, vs1, d1, ds1, p1, q1, rfl, rfl, rfl, h1, r1⟩ := trodAll_cons r0
  obtain ⟨v2, vs2, d2, ds2, p2, q2, rfl, rfl, rfl, h2, r2⟩ := trodAll_cons r1
  obtain ⟨rfl, rfl, rfl⟩ := trodAll_nil r2
  obtain rfl : args = #[v0, v1, v2] := by cases args; simp_all
  obtain ⟨rfl, rfl⟩ := trodVars_none hV
  obtain ⟨a0, rfl, rfl, rfl, w0⟩ := open_int Try.underlying22 (hval 0 22 v0 rfl rfl) h0
  obtain ⟨m, rfl, rfl, rfl, w1⟩ := open_int Try.underlying2 (hval 1 2 v1 rfl rfl) h1
  obtain ⟨n, rfl, hn⟩ := wf_u32 w0
  have hm := wf_i64 w1
  obtain ⟨x, y, rfl, ⟨mx, dx, px, hx⟩, ⟨my, dy, py, hy⟩⟩ := open_arr2 Try.underlying30 (by kernel_rfl) (by kernel_rfl) (hval 2 30 v2 rfl rfl) h2
  obtain ⟨A, c, l, rfl, hl, hml, hr⟩ := open_bytesE Try.underlying25 Try.underlying5 (by kernel_rfl) hx
  obtain ⟨B, d, l2, rfl, hl2, hml2, hr2⟩ := open_bytesE Try.underlying25 Try.underlying5 (by kernel_rfl) hy
  refine (octetBack_walk n m l l2 A B c d W hn hm (by omega) (by omega) hr hr2).mono fun e W' ⟨he, hk⟩ => ?_
  exact ⟨_, he, post_true rfl Try.underlying4 rfl rfl rfl rfl laidOut (by decide +kernel) hW' hk⟩

theorem octetBack_holds : Rows.OctetBackSaid :=
  OpenClaim.holds_of_wide 4 Try.f4 rfl rfl rfl rfl rfl rfl rfl ⟨rfl, rfl, rfl, rfl, rfl⟩ rfl rfl rfl rfl rfl (by kernel_rfl) Try.func4 (by kernel_rfl)
    (of_decide_eq_true (by kernel_rfl)) (by unfold Func.isWrapper; first | (rw [if_pos (by decide +kernel)]; kernel_rfl) | (rw [if_neg (by decide +kernel)]; exact ⟨rfl, rfl⟩))
    (fun os started H enc _ => octetBack_lifted os started H enc)
end Go.Proofs.Ytdjidnccockmmaa
