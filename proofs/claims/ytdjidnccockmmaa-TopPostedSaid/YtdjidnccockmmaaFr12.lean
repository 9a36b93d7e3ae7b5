/- Frames: the document's Encode. -/
import Derived.Test.YtdjidnccockmmaaFr6
import Derived.Test.YtdjidnccockmmaaFr11
namespace Go.Proofs.Ytdjidnccockmmaa
set_option linter.unusedSimpArgs false
set_option linter.unusedVariables false
open Go.ChangeShapes Go.WideShapes Go.ChangeAt Go.RowKit
open Go.RowKit (wrap32 wrap64)
set_option maxHeartbeats 4000000

theorem rfour_any (m : Int) (w : World) :
    Calls Try.prog 70 #[.int .i64 m] w fun e w' => ∃ v, e = .returned v ∧ w'.ownsRow w.heap.size 5 1 v 4 ((le (u32of m) 4).map byteV) ∧ Kept [] w w' := by
  go_enter Try.func70, Try.ntmps70
  go_wp2_with fail
  rw [show m % 4294967296 = ((u32of m : Nat) : Int) from by unfold u32of; omega]
  refine (rput32_any (u32of m) _ (u32of_lt m)).mono ?_
  rintro e w1 ⟨v, rfl, hown, hk⟩
  go_wp2
  go_ret
  exact ⟨_, rfl, hown, hk⟩
theorem u64of_wrap64 (n : Nat) : u64of (wrap64 (n : Int)) = u64of (n : Int) := by unfold u64of wrap64; omega
theorem own_app {w : World} {base m : Nat} {v : Value} {l x : List UInt8} (h : w.ownsRow base 5 1 v (l.length + m) (l.map byteV ++ x.map byteV)) (hm : x.length = m) : w.ownsRow base 5 1 v (l ++ x).length ((l ++ x).map byteV) := by
  rw [List.length_append, List.map_append, hm]; exact h

theorem read_cell {w : World} {b off : Nat} {l : List (Int × Int)} (h : Reads w (some ⟨b, off, none⟩) (l.flatMap readV)) {k : Nat} (hk : k < l.length) :
    w.cell? ⟨b, off + k * 2, none⟩ = some (.int .i64 l[k].1) ∧ w.cell? ⟨b, off + k * 2 + 1, none⟩ = some (.int .i64 l[k].2) := by
  obtain ⟨b', off', e, _, h0, h1⟩ := read_at h hk
  obtain ⟨rfl, rfl⟩ : b = b' ∧ off = off' := by simpa using e
  exact ⟨h0, h1⟩
theorem sum_cell {w : World} {b off : Nat} {l : List (Int × Int × Nat)} (h : Reads w (some ⟨b, off, none⟩) (l.flatMap sumV)) {k : Nat} (hk : k < l.length) :
    w.cell? ⟨b, off + k * 3, none⟩ = some (.int .i64 l[k].1) ∧ w.cell? ⟨b, off + k * 3 + 1, none⟩ = some (.int .i64 l[k].2.1) ∧ w.cell? ⟨b, off + k * 3 + 2, none⟩ = some (.int .u64 (l[k].2.2 : Int)) := by
  obtain ⟨b', off', e, _, h⟩ := sum_at h hk
  obtain ⟨rfl, rfl⟩ : b = b' ∧ off = off' := by simpa using e
  exact h
theorem trip_cell {w : World} {b off : Nat} {l : List (Int × Int × Int)} (h : Reads w (some ⟨b, off, none⟩) (l.flatMap tripV)) {k : Nat} (hk : k < l.length) :
    w.cell? ⟨b, off + k * 3, none⟩ = some (.int .i64 l[k].1) ∧ w.cell? ⟨b, off + k * 3 + 1, none⟩ = some (.int .i64 l[k].2.1) ∧ w.cell? ⟨b, off + k * 3 + 2, none⟩ = some (.int .i64 l[k].2.2) := by
  obtain ⟨b', off', e, _, h⟩ := trip_at h hk
  obtain ⟨rfl, rfl⟩ : b = b' ∧ off = off' := by simpa using e
  exact h

set_option maxRecDepth 100000 in
theorem refEncode_bad (F : Fr) (A1 A2 A3 : Option Addr) (c1 c2 c3 : Nat) (w : World) (hF : FrIn w F A1 A2 A3) (hbad : F.wrong ≠ 0) :
    Calls Try.prog 34 #[.agg (frC F A1 A2 A3 c1 c2 c3).toArray] w fun e w' => e = .returned (.tuple #[.slice none 0 0, .int .i64 F.wrong]) ∧ Kept [] w w' := by
  have HF := Lib.hid (hF.kept0 ((Kept.refl [] w).alloc (.cells (frC F A1 A2 A3 c1 c2 c3).toArray 60)))
  have K0 := Lib.hid ((Kept.refl [] w).alloc (.cells (frC F A1 A2 A3 c1 c2 c3).toArray 60))
  have hne : (F.wrong != 0) = true := by rw [bne_iff_ne]; exact hbad
  clear hF hbad
  go_enter Try.func34, Try.ntmps34
  go_wp2_with fail
  refine (refRight_any F A1 A2 A3 c1 c2 c3 _ HF.out).mono ?_
  rintro e w1 ⟨rfl, hk⟩
  have K1 := Lib.hid (K0.out.trans hk)
  clear hk
  go_wp2_with fail
  go_ret2
  exact ⟨rfl, K1.out⟩

set_option maxRecDepth 100000 in
theorem refEncode_ok (F : Fr) (A1 A2 A3 : Option Addr) (c1 c2 c3 : Nat) (w : World) (hF : FrIn w F A1 A2 A3) (hok : F.wrong = 0) (hs : F.Short) :
    Calls Try.prog 34 #[.agg (frC F A1 A2 A3 c1 c2 c3).toArray] w fun e w' => ∃ v, e = .returned (.tuple #[v, .int .i64 0]) ∧ w'.ownsRow w.heap.size 5 1 v F.bytes.length (F.bytes.map byteV) ∧ Kept [] w w' := by
  have HX := Lib.hid (Blk.new w 60 (frC F A1 A2 A3 c1 c2 c3))
  have HF := Lib.hid (hF.kept0 ((Kept.refl [] w).alloc (.cells (frC F A1 A2 A3 c1 c2 c3).toArray 60)))
  have K0 := Lib.hid ((Kept.refl [] w).alloc (.cells (frC F A1 A2 A3 c1 c2 c3).toArray 60))
  have HS := Lib.hid hs
  have HOK := Lib.hid hok
  clear hF hok hs
  go_enter Try.func34, Try.ntmps34
  go_wp2_with fail
  refine (refRight_any F A1 A2 A3 c1 c2 c3 _ HF.out).mono ?_
  rintro e w1 ⟨rfl, hk⟩
  rw [HOK.out]
  have K1 := Lib.hid (K0.out.trans hk)
  have HX1 := Lib.hid (HX.out.kept hk (by simp))
  have HF := Lib.hid (HF.out.kept0 hk)
  clear hk
  have hlt := HX1.out.lt
  have hx9 := HX1.out.cell 10
  simp only [List.getElem?_cons_zero, List.getElem?_cons_succ] at hx9
  go_upto_if 16 with (fail)
  go_cut [5] (fun o wx => o = .int .u8 (((ovB F.over).toNat : Nat) : Int) ∧ wx = w1)
  case first =>
    go_wp2_with fail
    · go_meet
      exact ⟨by have h : F.over = true := by assumption
                rw [h]; rfl, rfl⟩
    · go_meet
      exact ⟨by have h : F.over = false := by first | assumption | simpa using ‹¬ F.over = true›
                rw [h]; rfl, rfl⟩
  case rest =>
  obtain ⟨rfl, rfl⟩ := hcut
  clear hx9
  have hx0 := HX1.out.cell 0
  have hx1 := HX1.out.cell 1
  have hx2 := HX1.out.cell 2
  simp only [List.getElem?_cons_zero, List.getElem?_cons_succ] at hx0 hx1 hx2
  go_upto_region 8 with (fail)
  have h3 : [b8 F.kind, b8 F.src, b8 F.dst].map byteV = [.int .u8 (F.kind % 256), .int .u8 (F.src % 256), .int .u8 (F.dst % 256)] := by simp [byteV_b8']
  have hb0 := Blk.new wc 5 ([b8 F.kind, b8 F.src, b8 F.dst].map byteV)
  have KB := Lib.hid (KeptB.of_kept0 (base := wc.heap.size) (T := [5]) ((Kept.refl [] wc).alloc (.cells ([b8 F.kind, b8 F.src, b8 F.dst].map byteV).toArray 5)))
  rw [h3] at hb0 KB
  have HO := Lib.hid (own_of_blk (n := 3) hb0 (Nat.le_refl _) rfl (by decide))
  generalize wc.alloc (.cells [Value.int .u8 (F.kind % 256), .int .u8 (F.src % 256), .int .u8 (F.dst % 256)].toArray 5) = wb at HO KB ⊢
  rw [← h3] at HO
  have HO := Lib.hid (show wb.ownsRow wc.heap.size 5 1 (.slice (some ⟨wc.heap.size, 0, none⟩) 3 3) [b8 F.kind, b8 F.src, b8 F.dst].length ([b8 F.kind, b8 F.src, b8 F.dst].map byteV) from HO.out)
  clear h3 hb0 hx0 hx1 hx2
  obtain ⟨v, hv⟩ : ∃ v, v = Value.slice (some ⟨wc.heap.size, 0, none⟩) 3 3 := ⟨_, rfl⟩
  rw [← hv] at HO ⊢
  clear hv
  have hx3 := (HX1.out.keptBlt KB.out hlt).cell 3
  have hltw := Nat.lt_of_lt_of_le hlt KB.out.size
  simp only [List.getElem?_cons_zero, List.getElem?_cons_succ] at hx3
  go_wp2_with fail
  refine (rfour_any (F.seq) _).mono ?_
  rintro e wa ⟨va, rfl, hown, hk⟩
  obtain ⟨Aa, ca, rfl, _, _, hra, _⟩ := own_form hown
  have RA := Lib.hid hra
  have KA := Lib.hid (KB.out.trans (.of_kept0 hk))
  have OA := Lib.hid (own_kept HO.out hk (fun _ _ => by simp))
  clear hown hk hra KB HO hx3 hltw
  go_upto_region 9 with (first | (at_builtin; refine wpList_app _ rfl (.tmp 27) (.tmp 30) _ rfl 5 (.int .u8 0) 1 1 Try.underlying25 infoU8 rfl (by decide) wc.heap.size v _ _ rfl OA.out Aa 4 ca ((le (u32of (F.seq)) 4).map byteV) rfl (by simp [le_length]) RA.out (by simp [byteV, Value.oneCell']) (by have := HS.out.items; have := HS.out.sums; have := HS.out.trips; simp only [List.length_append, headB_length, fours_length, eights_length, flatB_length _ _ itemB_length, flatB_length _ _ sumB_length, flatB_length _ _ tripB_length, List.length_cons, List.length_nil, List.length_take, le_length, maxLen]; omega) (by have := HS.out.items; have := HS.out.sums; have := HS.out.trips; simp only [List.length_append, headB_length, fours_length, eights_length, flatB_length _ _ itemB_length, flatB_length _ _ sumB_length, flatB_length _ _ tripB_length, List.length_cons, List.length_nil, List.length_take, le_length, maxLen]; omega) KA.out.size ?_; intro v2 w3 hown2 hk2 _; have O2 := Lib.hid hown2; have K2 := Lib.hid hk2; clear hown2 hk2))
  have KB := Lib.hid (KA.out.app K2.out OA.out (by simp))
  have HO := Lib.hid (show w3.ownsRow wc.heap.size 5 1 v2 ([b8 F.kind, b8 F.src, b8 F.dst] ++ fours [F.seq]).length (([b8 F.kind, b8 F.src, b8 F.dst] ++ fours [F.seq]).map byteV) from (by
    have := own_app O2.out (by simp [le_length])
    simpa [fours, eights] using this))
  obtain ⟨wb, hwb⟩ : ∃ wb, wb = w3 := ⟨_, rfl⟩
  subst hwb
  obtain ⟨v, hv⟩ : ∃ v, v = v2 := ⟨_, rfl⟩
  subst hv
  clear KA OA RA K2 O2
  have hx4 := (HX1.out.keptBlt KB.out hlt).cell 4
  have hltw := Nat.lt_of_lt_of_le hlt KB.out.size
  simp only [List.getElem?_cons_zero, List.getElem?_cons_succ] at hx4
  go_wp2_with fail
  refine (rfour_any (F.round) _).mono ?_
  rintro e wa ⟨va, rfl, hown, hk⟩
  obtain ⟨Aa, ca, rfl, _, _, hra, _⟩ := own_form hown
  have RA := Lib.hid hra
  have KA := Lib.hid (KB.out.trans (.of_kept0 hk))
  have OA := Lib.hid (own_kept HO.out hk (fun _ _ => by simp))
  clear hown hk hra KB HO hx4 hltw
  go_upto_region 10 with (first | (at_builtin; refine wpList_app _ rfl (.tmp 32) (.tmp 35) _ rfl 5 (.int .u8 0) 1 1 Try.underlying25 infoU8 rfl (by decide) wc.heap.size v _ _ rfl OA.out Aa 4 ca ((le (u32of (F.round)) 4).map byteV) rfl (by simp [le_length]) RA.out (by simp [byteV, Value.oneCell']) (by have := HS.out.items; have := HS.out.sums; have := HS.out.trips; simp only [List.length_append, headB_length, fours_length, eights_length, flatB_length _ _ itemB_length, flatB_length _ _ sumB_length, flatB_length _ _ tripB_length, List.length_cons, List.length_nil, List.length_take, le_length, maxLen]; omega) (by have := HS.out.items; have := HS.out.sums; have := HS.out.trips; simp only [List.length_append, headB_length, fours_length, eights_length, flatB_length _ _ itemB_length, flatB_length _ _ sumB_length, flatB_length _ _ tripB_length, List.length_cons, List.length_nil, List.length_take, le_length, maxLen]; omega) KA.out.size ?_; intro v2 w3 hown2 hk2 _; have O2 := Lib.hid hown2; have K2 := Lib.hid hk2; clear hown2 hk2))
  have KB := Lib.hid (KA.out.app K2.out OA.out (by simp))
  have HO := Lib.hid (show w3.ownsRow wc.heap.size 5 1 v2 ([b8 F.kind, b8 F.src, b8 F.dst] ++ fours [F.seq] ++ fours [F.round]).length (([b8 F.kind, b8 F.src, b8 F.dst] ++ fours [F.seq] ++ fours [F.round]).map byteV) from (by
    have := own_app O2.out (by simp [le_length])
    simpa [fours, eights] using this))
  obtain ⟨wb, hwb⟩ : ∃ wb, wb = w3 := ⟨_, rfl⟩
  subst hwb
  obtain ⟨v, hv⟩ : ∃ v, v = v2 := ⟨_, rfl⟩
  subst hv
  clear KA OA RA K2 O2
  have hown := HO.out.alloc (.cells ([ovB F.over].map byteV).toArray 5)
  have OA := Lib.hid hown
  have KA := Lib.hid (KB.out.trans (.of_kept0 ((Kept.refl [] wb).alloc (.cells ([ovB F.over].map byteV).toArray 5))))
  clear hown
  go_upto_region 11 with (first | (at_builtin; refine wpList_app _ rfl (.tmp 37) (.tmp 39) _ rfl 5 (.int .u8 0) 1 1 Try.underlying25 infoU8 rfl (by decide) wc.heap.size v _ _ rfl OA.out (some ⟨_, 0, none⟩) 1 1 ([ovB F.over].map byteV) rfl (by simp [le_length]) (Reads.of_blk (Blk.new _ _ _) (fun _ _ h => h)) (by simp [byteV, Value.oneCell']) (by have := HS.out.items; have := HS.out.sums; have := HS.out.trips; simp only [List.length_append, headB_length, fours_length, eights_length, flatB_length _ _ itemB_length, flatB_length _ _ sumB_length, flatB_length _ _ tripB_length, List.length_cons, List.length_nil, List.length_take, le_length, maxLen]; omega) (by have := HS.out.items; have := HS.out.sums; have := HS.out.trips; simp only [List.length_append, headB_length, fours_length, eights_length, flatB_length _ _ itemB_length, flatB_length _ _ sumB_length, flatB_length _ _ tripB_length, List.length_cons, List.length_nil, List.length_take, le_length, maxLen]; omega) KA.out.size ?_; intro v2 w3 hown2 hk2 _; have O2 := Lib.hid hown2; have K2 := Lib.hid hk2; clear hown2 hk2))
  have KB := Lib.hid (KA.out.app K2.out OA.out (by simp))
  have HO := Lib.hid (show w3.ownsRow wc.heap.size 5 1 v2 ([b8 F.kind, b8 F.src, b8 F.dst] ++ fours [F.seq] ++ fours [F.round] ++ [ovB F.over]).length (([b8 F.kind, b8 F.src, b8 F.dst] ++ fours [F.seq] ++ fours [F.round] ++ [ovB F.over]).map byteV) from own_app O2.out rfl)
  obtain ⟨wb, hwb⟩ : ∃ wb, wb = w3 := ⟨_, rfl⟩
  subst hwb
  obtain ⟨v, hv⟩ : ∃ v, v = v2 := ⟨_, rfl⟩
  subst hv
  clear KA OA K2 O2
  have hx9 := (HX1.out.keptBlt KB.out hlt).cell 9
  have hltw := Nat.lt_of_lt_of_le hlt KB.out.size
  simp only [List.getElem?_cons_zero, List.getElem?_cons_succ] at hx9
  go_wp2_with fail
  refine (rput64_any (F.n) _).mono ?_
  rintro e wa ⟨va, rfl, hown, hk⟩
  obtain ⟨Aa, ca, rfl, _, _, hra, _⟩ := own_form hown
  have RA := Lib.hid hra
  have KA := Lib.hid (KB.out.trans (.of_kept0 hk))
  have OA := Lib.hid (own_kept HO.out hk (fun _ _ => by simp))
  clear hown hk hra KB HO hx9 hltw
  go_upto_region 12 with (first | (at_builtin; refine wpList_app _ rfl (.tmp 41) (.tmp 44) _ rfl 5 (.int .u8 0) 1 1 Try.underlying25 infoU8 rfl (by decide) wc.heap.size v _ _ rfl OA.out Aa 8 ca ((le (u64of (F.n)) 8).map byteV) rfl (by simp [le_length]) RA.out (by simp [byteV, Value.oneCell']) (by have := HS.out.items; have := HS.out.sums; have := HS.out.trips; simp only [List.length_append, headB_length, fours_length, eights_length, flatB_length _ _ itemB_length, flatB_length _ _ sumB_length, flatB_length _ _ tripB_length, List.length_cons, List.length_nil, List.length_take, le_length, maxLen]; omega) (by have := HS.out.items; have := HS.out.sums; have := HS.out.trips; simp only [List.length_append, headB_length, fours_length, eights_length, flatB_length _ _ itemB_length, flatB_length _ _ sumB_length, flatB_length _ _ tripB_length, List.length_cons, List.length_nil, List.length_take, le_length, maxLen]; omega) KA.out.size ?_; intro v2 w3 hown2 hk2 _; have O2 := Lib.hid hown2; have K2 := Lib.hid hk2; clear hown2 hk2))
  have KB := Lib.hid (KA.out.app K2.out OA.out (by simp))
  have HO := Lib.hid (show w3.ownsRow wc.heap.size 5 1 v2 ([b8 F.kind, b8 F.src, b8 F.dst] ++ fours [F.seq] ++ fours [F.round] ++ [ovB F.over] ++ eights [F.n]).length (([b8 F.kind, b8 F.src, b8 F.dst] ++ fours [F.seq] ++ fours [F.round] ++ [ovB F.over] ++ eights [F.n]).map byteV) from (by
    have := own_app O2.out (by simp [le_length])
    simpa [fours, eights] using this))
  obtain ⟨wb, hwb⟩ : ∃ wb, wb = w3 := ⟨_, rfl⟩
  subst hwb
  obtain ⟨v, hv⟩ : ∃ v, v = v2 := ⟨_, rfl⟩
  subst hv
  clear KA OA RA K2 O2
  have hx5 := (HX1.out.keptBlt KB.out hlt).cell 5
  have hltw := Nat.lt_of_lt_of_le hlt KB.out.size
  simp only [List.getElem?_cons_zero, List.getElem?_cons_succ] at hx5
  go_wp2_with fail
  refine (rfour_any (F.vn) _).mono ?_
  rintro e wa ⟨va, rfl, hown, hk⟩
  obtain ⟨Aa, ca, rfl, _, _, hra, _⟩ := own_form hown
  have RA := Lib.hid hra
  have KA := Lib.hid (KB.out.trans (.of_kept0 hk))
  have OA := Lib.hid (own_kept HO.out hk (fun _ _ => by simp))
  clear hown hk hra KB HO hx5 hltw
  go_upto_region 13 with (first | (at_builtin; refine wpList_app _ rfl (.tmp 46) (.tmp 50) _ rfl 5 (.int .u8 0) 1 1 Try.underlying25 infoU8 rfl (by decide) wc.heap.size v _ _ rfl OA.out Aa 4 ca ((le (u32of (F.vn)) 4).map byteV) rfl (by simp [le_length]) RA.out (by simp [byteV, Value.oneCell']) (by have := HS.out.items; have := HS.out.sums; have := HS.out.trips; simp only [List.length_append, headB_length, fours_length, eights_length, flatB_length _ _ itemB_length, flatB_length _ _ sumB_length, flatB_length _ _ tripB_length, List.length_cons, List.length_nil, List.length_take, le_length, maxLen]; omega) (by have := HS.out.items; have := HS.out.sums; have := HS.out.trips; simp only [List.length_append, headB_length, fours_length, eights_length, flatB_length _ _ itemB_length, flatB_length _ _ sumB_length, flatB_length _ _ tripB_length, List.length_cons, List.length_nil, List.length_take, le_length, maxLen]; omega) KA.out.size ?_; intro v2 w3 hown2 hk2 _; have O2 := Lib.hid hown2; have K2 := Lib.hid hk2; clear hown2 hk2))
  have KB := Lib.hid (KA.out.app K2.out OA.out (by simp))
  have HO := Lib.hid (show w3.ownsRow wc.heap.size 5 1 v2 ([b8 F.kind, b8 F.src, b8 F.dst] ++ fours [F.seq] ++ fours [F.round] ++ [ovB F.over] ++ eights [F.n] ++ fours [F.vn]).length (([b8 F.kind, b8 F.src, b8 F.dst] ++ fours [F.seq] ++ fours [F.round] ++ [ovB F.over] ++ eights [F.n] ++ fours [F.vn]).map byteV) from (by
    have := own_app O2.out (by simp [le_length])
    simpa [fours, eights] using this))
  obtain ⟨wb, hwb⟩ : ∃ wb, wb = w3 := ⟨_, rfl⟩
  subst hwb
  obtain ⟨v, hv⟩ : ∃ v, v = v2 := ⟨_, rfl⟩
  subst hv
  clear KA OA RA K2 O2
  have hx6 := (HX1.out.keptBlt KB.out hlt).cell 6
  have hltw := Nat.lt_of_lt_of_le hlt KB.out.size
  simp only [List.getElem?_cons_zero, List.getElem?_cons_succ] at hx6
  go_wp2_with fail
  refine (rfour_any ((F.items.length : Int)) _).mono ?_
  rintro e wa ⟨va, rfl, hown, hk⟩
  obtain ⟨Aa, ca, rfl, _, _, hra, _⟩ := own_form hown
  have RA := Lib.hid hra
  have KA := Lib.hid (KB.out.trans (.of_kept0 hk))
  have OA := Lib.hid (own_kept HO.out hk (fun _ _ => by simp))
  clear hown hk hra KB HO hx6 hltw
  go_upto_region 14 with (first | (at_builtin; refine wpList_app _ rfl (.tmp 52) (.tmp 57) _ rfl 5 (.int .u8 0) 1 1 Try.underlying25 infoU8 rfl (by decide) wc.heap.size v _ _ rfl OA.out Aa 4 ca ((le (u32of ((F.items.length : Int))) 4).map byteV) rfl (by simp [le_length]) RA.out (by simp [byteV, Value.oneCell']) (by have := HS.out.items; have := HS.out.sums; have := HS.out.trips; simp only [List.length_append, headB_length, fours_length, eights_length, flatB_length _ _ itemB_length, flatB_length _ _ sumB_length, flatB_length _ _ tripB_length, List.length_cons, List.length_nil, List.length_take, le_length, maxLen]; omega) (by have := HS.out.items; have := HS.out.sums; have := HS.out.trips; simp only [List.length_append, headB_length, fours_length, eights_length, flatB_length _ _ itemB_length, flatB_length _ _ sumB_length, flatB_length _ _ tripB_length, List.length_cons, List.length_nil, List.length_take, le_length, maxLen]; omega) KA.out.size ?_; intro v2 w3 hown2 hk2 _; have O2 := Lib.hid hown2; have K2 := Lib.hid hk2; clear hown2 hk2))
  have KB := Lib.hid (KA.out.app K2.out OA.out (by simp))
  have HO := Lib.hid (show w3.ownsRow wc.heap.size 5 1 v2 ([b8 F.kind, b8 F.src, b8 F.dst] ++ fours [F.seq] ++ fours [F.round] ++ [ovB F.over] ++ eights [F.n] ++ fours [F.vn] ++ fours [(F.items.length : Int)]).length (([b8 F.kind, b8 F.src, b8 F.dst] ++ fours [F.seq] ++ fours [F.round] ++ [ovB F.over] ++ eights [F.n] ++ fours [F.vn] ++ fours [(F.items.length : Int)]).map byteV) from (by
    have := own_app O2.out (by simp [le_length])
    simpa [fours, eights] using this))
  obtain ⟨wb, hwb⟩ : ∃ wb, wb = w3 := ⟨_, rfl⟩
  subst hwb
  obtain ⟨v, hv⟩ : ∃ v, v = v2 := ⟨_, rfl⟩
  subst hv
  clear KA OA RA K2 O2
  have HO := Lib.hid (show wb.ownsRow wc.heap.size 5 1 v F.headB.length (F.headB.map byteV) from (by
    have h := HO.out
    have e : [b8 F.kind, b8 F.src, b8 F.dst] ++ fours [F.seq] ++ fours [F.round] ++ [ovB F.over] ++ eights [F.n] ++ fours [F.vn] ++ fours [(F.items.length : Int)] = F.headB := by simp [Fr.headB, fours, eights]
    rw [e] at h
    exact h))
  have hx6 := (HX1.out.keptBlt KB.out hlt).cell 6
  have hltw := Nat.lt_of_lt_of_le hlt KB.out.size
  simp only [List.getElem?_cons_zero, List.getElem?_cons_succ] at hx6
  go_wp2_with fail
  go_loopw [6, 7] (fun v i wr => ∃ k : Nat, k ≤ F.items.length ∧ i = .int .i64 k ∧ Hid (wr.ownsRow wc.heap.size 5 1 v (F.headB ++ (F.items.take k).flatMap itemB).length ((F.headB ++ (F.items.take k).flatMap itemB).map byteV)) ∧ Hid (KeptB wc.heap.size [5] wc wr)) (fun _ i _ => F.items.length - (intOf i).toNat)
  case atStart => exact ⟨0, Nat.zero_le _, rfl, Lib.hid (by simpa using HO.out), KB⟩
  case round =>
    obtain ⟨k, hk, rfl, HO, KB⟩ := hrel
    have hll := HS.out.items
    clear hltw hx6
    by_cases hlt1 : k < F.items.length
    · obtain ⟨bb, off, rfl, hbl, _⟩ := read_at HF.out.items hlt1
      have HRD := Lib.hid HF.out.items
      obtain ⟨wb, hwb⟩ : ∃ wb, wb = wr := ⟨_, rfl⟩
      subst hwb
      obtain ⟨v, hv⟩ : ∃ v, v = u6 := ⟨_, rfl⟩
      subst hv
      have hbl := Nat.lt_of_lt_of_le hbl KB.out.size
      have hx6 := (HX1.out.keptBlt KB.out hlt).cell 6
      have hltw := Nat.lt_of_lt_of_le hlt KB.out.size
      simp only [List.getElem?_cons_zero, List.getElem?_cons_succ] at hx6
      have HFR := HRD.out.kept0 ((Kept.refl [] wc).thenB KB.out (Nat.le_refl _))
      obtain ⟨s0, s1⟩ := read_cell HFR hlt1
      clear HFR
      go_wp2_with fail
      refine (rfour_any (F.items[k].1) _).mono ?_
      rintro e wa ⟨va, rfl, hown, hk⟩
      obtain ⟨Aa, ca, rfl, _, _, hra, _⟩ := own_form hown
      have RA := Lib.hid hra
      have KA := Lib.hid (KB.out.trans (.of_kept0 hk))
      have OA := Lib.hid (own_kept HO.out hk (fun _ _ => by simp))
      clear hown hk hra KB HO hx6 hltw s0 s1
      go_upto_region 18 with (first | (at_builtin; refine wpList_app _ rfl (.tmp 67) (.tmp 75) _ rfl 5 (.int .u8 0) 1 1 Try.underlying25 infoU8 rfl (by decide) wc.heap.size v _ _ rfl OA.out Aa 4 ca ((le (u32of (F.items[k].1)) 4).map byteV) rfl (by simp [le_length]) RA.out (by simp [byteV, Value.oneCell']) (by have := HS.out.items; have := HS.out.sums; have := HS.out.trips; simp only [List.length_append, headB_length, fours_length, eights_length, flatB_length _ _ itemB_length, flatB_length _ _ sumB_length, flatB_length _ _ tripB_length, List.length_cons, List.length_nil, List.length_take, le_length, maxLen]; omega) (by have := HS.out.items; have := HS.out.sums; have := HS.out.trips; simp only [List.length_append, headB_length, fours_length, eights_length, flatB_length _ _ itemB_length, flatB_length _ _ sumB_length, flatB_length _ _ tripB_length, List.length_cons, List.length_nil, List.length_take, le_length, maxLen]; omega) KA.out.size ?_; intro v2 w3 hown2 hk2 _; have O2 := Lib.hid hown2; have K2 := Lib.hid hk2; clear hown2 hk2))
      have KB := Lib.hid (KA.out.app K2.out OA.out (by simp))
      have HO := Lib.hid (show w3.ownsRow wc.heap.size 5 1 v2 ((F.headB ++ (F.items.take k).flatMap itemB) ++ fours [F.items[k].1]).length (((F.headB ++ (F.items.take k).flatMap itemB) ++ fours [F.items[k].1]).map byteV) from (by
        have := own_app O2.out (by simp [le_length])
        simpa [fours, eights] using this))
      obtain ⟨wb, hwb⟩ : ∃ wb, wb = w3 := ⟨_, rfl⟩
      subst hwb
      obtain ⟨v, hv⟩ : ∃ v, v = v2 := ⟨_, rfl⟩
      subst hv
      clear KA OA RA K2 O2
      have hx6 := (HX1.out.keptBlt KB.out hlt).cell 6
      have hltw := Nat.lt_of_lt_of_le hlt KB.out.size
      simp only [List.getElem?_cons_zero, List.getElem?_cons_succ] at hx6
      have HFR := HRD.out.kept0 ((Kept.refl [] wc).thenB KB.out (Nat.le_refl _))
      obtain ⟨s0, s1⟩ := read_cell HFR hlt1
      clear HFR
      go_wp2_with fail
      refine (rput64_any (F.items[k].2) _).mono ?_
      rintro e wa ⟨va, rfl, hown, hk⟩
      obtain ⟨Aa, ca, rfl, _, _, hra, _⟩ := own_form hown
      have RA := Lib.hid hra
      have KA := Lib.hid (KB.out.trans (.of_kept0 hk))
      have OA := Lib.hid (own_kept HO.out hk (fun _ _ => by simp))
      clear hown hk hra KB HO hx6 hltw s0 s1
      go_upto_region 16 with (first | (at_builtin; refine wpList_app _ rfl (.tmp 77) (.tmp 85) _ rfl 5 (.int .u8 0) 1 1 Try.underlying25 infoU8 rfl (by decide) wc.heap.size v _ _ rfl OA.out Aa 8 ca ((le (u64of (F.items[k].2)) 8).map byteV) rfl (by simp [le_length]) RA.out (by simp [byteV, Value.oneCell']) (by have := HS.out.items; have := HS.out.sums; have := HS.out.trips; simp only [List.length_append, headB_length, fours_length, eights_length, flatB_length _ _ itemB_length, flatB_length _ _ sumB_length, flatB_length _ _ tripB_length, List.length_cons, List.length_nil, List.length_take, le_length, maxLen]; omega) (by have := HS.out.items; have := HS.out.sums; have := HS.out.trips; simp only [List.length_append, headB_length, fours_length, eights_length, flatB_length _ _ itemB_length, flatB_length _ _ sumB_length, flatB_length _ _ tripB_length, List.length_cons, List.length_nil, List.length_take, le_length, maxLen]; omega) KA.out.size ?_; intro v2 w3 hown2 hk2 _; have O2 := Lib.hid hown2; have K2 := Lib.hid hk2; clear hown2 hk2))
      have KB := Lib.hid (KA.out.app K2.out OA.out (by simp))
      have HO := Lib.hid (show w3.ownsRow wc.heap.size 5 1 v2 ((F.headB ++ (F.items.take k).flatMap itemB) ++ fours [F.items[k].1] ++ eights [F.items[k].2]).length (((F.headB ++ (F.items.take k).flatMap itemB) ++ fours [F.items[k].1] ++ eights [F.items[k].2]).map byteV) from (by
        have := own_app O2.out (by simp [le_length])
        simpa [fours, eights] using this))
      obtain ⟨wb, hwb⟩ : ∃ wb, wb = w3 := ⟨_, rfl⟩
      subst hwb
      obtain ⟨v, hv⟩ : ∃ v, v = v2 := ⟨_, rfl⟩
      subst hv
      clear KA OA RA K2 O2
      go_wp2_with fail
      go_roundw
      case rel =>
        exact ⟨k + 1, by omega, by go_num, Lib.hid (by have := HO.out; rw [flatB_take _ hlt1]; simpa [itemB, fours, eights, u64of_wrap64, List.append_assoc, Nat.add_assoc] using this), KB⟩
      case measure => simp [intOf]; omega
    · have : k = F.items.length := by omega
      subst this
      rw [List.take_length] at HO
      clear hlt1 hll
      obtain ⟨wb, hwb⟩ : ∃ wb, wb = wr := ⟨_, rfl⟩
      subst hwb
      obtain ⟨v, hv⟩ : ∃ v, v = u6 := ⟨_, rfl⟩
      subst hv
      have hx6 := (HX1.out.keptBlt KB.out hlt).cell 6
      have hltw := Nat.lt_of_lt_of_le hlt KB.out.size
      simp only [List.getElem?_cons_zero, List.getElem?_cons_succ] at hx6
      go_upto_region 19 with (fail)
      clear hx6 hltw
      have hx7 := (HX1.out.keptBlt KB.out hlt).cell 7
      have hltw := Nat.lt_of_lt_of_le hlt KB.out.size
      simp only [List.getElem?_cons_zero, List.getElem?_cons_succ] at hx7
      go_wp2_with fail
      refine (rfour_any ((F.sums.length : Int)) _).mono ?_
      rintro e wa ⟨va, rfl, hown, hk⟩
      obtain ⟨Aa, ca, rfl, _, _, hra, _⟩ := own_form hown
      have RA := Lib.hid hra
      have KA := Lib.hid (KB.out.trans (.of_kept0 hk))
      have OA := Lib.hid (own_kept HO.out hk (fun _ _ => by simp))
      clear hown hk hra KB HO hx7 hltw
      go_upto_region 20 with (first | (at_builtin; refine wpList_app _ rfl (.tmp 87) (.tmp 91) _ rfl 5 (.int .u8 0) 1 1 Try.underlying25 infoU8 rfl (by decide) wc.heap.size v _ _ rfl OA.out Aa 4 ca ((le (u32of ((F.sums.length : Int))) 4).map byteV) rfl (by simp [le_length]) RA.out (by simp [byteV, Value.oneCell']) (by have := HS.out.items; have := HS.out.sums; have := HS.out.trips; simp only [List.length_append, headB_length, fours_length, eights_length, flatB_length _ _ itemB_length, flatB_length _ _ sumB_length, flatB_length _ _ tripB_length, List.length_cons, List.length_nil, List.length_take, le_length, maxLen]; omega) (by have := HS.out.items; have := HS.out.sums; have := HS.out.trips; simp only [List.length_append, headB_length, fours_length, eights_length, flatB_length _ _ itemB_length, flatB_length _ _ sumB_length, flatB_length _ _ tripB_length, List.length_cons, List.length_nil, List.length_take, le_length, maxLen]; omega) KA.out.size ?_; intro v2 w3 hown2 hk2 _; have O2 := Lib.hid hown2; have K2 := Lib.hid hk2; clear hown2 hk2))
      have KB := Lib.hid (KA.out.app K2.out OA.out (by simp))
      have HO := Lib.hid (show w3.ownsRow wc.heap.size 5 1 v2 ((F.headB ++ F.items.flatMap itemB) ++ fours [(F.sums.length : Int)]).length (((F.headB ++ F.items.flatMap itemB) ++ fours [(F.sums.length : Int)]).map byteV) from (by
        have := own_app O2.out (by simp [le_length])
        simpa [fours, eights] using this))
      obtain ⟨wb, hwb⟩ : ∃ wb, wb = w3 := ⟨_, rfl⟩
      subst hwb
      obtain ⟨v, hv⟩ : ∃ v, v = v2 := ⟨_, rfl⟩
      subst hv
      clear KA OA RA K2 O2
      have hx7 := (HX1.out.keptBlt KB.out hlt).cell 7
      have hltw := Nat.lt_of_lt_of_le hlt KB.out.size
      simp only [List.getElem?_cons_zero, List.getElem?_cons_succ] at hx7
      go_wp2_with fail
      go_loopw [6, 8] (fun v i wr => ∃ k : Nat, k ≤ F.sums.length ∧ i = .int .i64 k ∧ Hid (wr.ownsRow wc.heap.size 5 1 v (F.headB ++ F.items.flatMap itemB ++ fours [(F.sums.length : Int)] ++ (F.sums.take k).flatMap sumB).length ((F.headB ++ F.items.flatMap itemB ++ fours [(F.sums.length : Int)] ++ (F.sums.take k).flatMap sumB).map byteV)) ∧ Hid (KeptB wc.heap.size [5] wc wr)) (fun _ i _ => F.sums.length - (intOf i).toNat)
      case atStart => exact ⟨0, Nat.zero_le _, rfl, Lib.hid (by simpa using HO.out), KB⟩
      case round =>
        obtain ⟨k, hk, rfl, HO, KB⟩ := hrel
        have hll := HS.out.sums
        clear hltw hx7
        by_cases hlt1 : k < F.sums.length
        · obtain ⟨bb, off, rfl, hbl, _⟩ := sum_at HF.out.sums hlt1
          have HRD := Lib.hid HF.out.sums
          obtain ⟨wb, hwb⟩ : ∃ wb, wb = wr := ⟨_, rfl⟩
          subst hwb
          obtain ⟨v, hv⟩ : ∃ v, v = u6 := ⟨_, rfl⟩
          subst hv
          have hbl := Nat.lt_of_lt_of_le hbl KB.out.size
          have hx7 := (HX1.out.keptBlt KB.out hlt).cell 7
          have hltw := Nat.lt_of_lt_of_le hlt KB.out.size
          simp only [List.getElem?_cons_zero, List.getElem?_cons_succ] at hx7
          have HFR := HRD.out.kept0 ((Kept.refl [] wc).thenB KB.out (Nat.le_refl _))
          obtain ⟨s0, s1, s2⟩ := sum_cell HFR hlt1
          clear HFR
          go_wp2_with fail
          refine (rfour_any (F.sums[k].1) _).mono ?_
          rintro e wa ⟨va, rfl, hown, hk⟩
          obtain ⟨Aa, ca, rfl, _, _, hra, _⟩ := own_form hown
          have RA := Lib.hid hra
          have KA := Lib.hid (KB.out.trans (.of_kept0 hk))
          have OA := Lib.hid (own_kept HO.out hk (fun _ _ => by simp))
          clear hown hk hra KB HO hx7 hltw s0 s1 s2
          go_upto_region 24 with (first | (at_builtin; refine wpList_app _ rfl (.tmp 100) (.tmp 107) _ rfl 5 (.int .u8 0) 1 1 Try.underlying25 infoU8 rfl (by decide) wc.heap.size v _ _ rfl OA.out Aa 4 ca ((le (u32of (F.sums[k].1)) 4).map byteV) rfl (by simp [le_length]) RA.out (by simp [byteV, Value.oneCell']) (by have := HS.out.items; have := HS.out.sums; have := HS.out.trips; simp only [List.length_append, headB_length, fours_length, eights_length, flatB_length _ _ itemB_length, flatB_length _ _ sumB_length, flatB_length _ _ tripB_length, List.length_cons, List.length_nil, List.length_take, le_length, maxLen]; omega) (by have := HS.out.items; have := HS.out.sums; have := HS.out.trips; simp only [List.length_append, headB_length, fours_length, eights_length, flatB_length _ _ itemB_length, flatB_length _ _ sumB_length, flatB_length _ _ tripB_length, List.length_cons, List.length_nil, List.length_take, le_length, maxLen]; omega) KA.out.size ?_; intro v2 w3 hown2 hk2 _; have O2 := Lib.hid hown2; have K2 := Lib.hid hk2; clear hown2 hk2))
          have KB := Lib.hid (KA.out.app K2.out OA.out (by simp))
          have HO := Lib.hid (show w3.ownsRow wc.heap.size 5 1 v2 ((F.headB ++ F.items.flatMap itemB ++ fours [(F.sums.length : Int)] ++ (F.sums.take k).flatMap sumB) ++ fours [F.sums[k].1]).length (((F.headB ++ F.items.flatMap itemB ++ fours [(F.sums.length : Int)] ++ (F.sums.take k).flatMap sumB) ++ fours [F.sums[k].1]).map byteV) from (by
            have := own_app O2.out (by simp [le_length])
            simpa [fours, eights] using this))
          obtain ⟨wb, hwb⟩ : ∃ wb, wb = w3 := ⟨_, rfl⟩
          subst hwb
          obtain ⟨v, hv⟩ : ∃ v, v = v2 := ⟨_, rfl⟩
          subst hv
          clear KA OA RA K2 O2
          have hx7 := (HX1.out.keptBlt KB.out hlt).cell 7
          have hltw := Nat.lt_of_lt_of_le hlt KB.out.size
          simp only [List.getElem?_cons_zero, List.getElem?_cons_succ] at hx7
          have HFR := HRD.out.kept0 ((Kept.refl [] wc).thenB KB.out (Nat.le_refl _))
          obtain ⟨s0, s1, s2⟩ := sum_cell HFR hlt1
          clear HFR
          go_wp2_with fail
          refine (rput64_any (F.sums[k].2.1) _).mono ?_
          rintro e wa ⟨va, rfl, hown, hk⟩
          obtain ⟨Aa, ca, rfl, _, _, hra, _⟩ := own_form hown
          have RA := Lib.hid hra
          have KA := Lib.hid (KB.out.trans (.of_kept0 hk))
          have OA := Lib.hid (own_kept HO.out hk (fun _ _ => by simp))
          clear hown hk hra KB HO hx7 hltw s0 s1 s2
          go_upto_region 25 with (first | (at_builtin; refine wpList_app _ rfl (.tmp 109) (.tmp 117) _ rfl 5 (.int .u8 0) 1 1 Try.underlying25 infoU8 rfl (by decide) wc.heap.size v _ _ rfl OA.out Aa 8 ca ((le (u64of (F.sums[k].2.1)) 8).map byteV) rfl (by simp [le_length]) RA.out (by simp [byteV, Value.oneCell']) (by have := HS.out.items; have := HS.out.sums; have := HS.out.trips; simp only [List.length_append, headB_length, fours_length, eights_length, flatB_length _ _ itemB_length, flatB_length _ _ sumB_length, flatB_length _ _ tripB_length, List.length_cons, List.length_nil, List.length_take, le_length, maxLen]; omega) (by have := HS.out.items; have := HS.out.sums; have := HS.out.trips; simp only [List.length_append, headB_length, fours_length, eights_length, flatB_length _ _ itemB_length, flatB_length _ _ sumB_length, flatB_length _ _ tripB_length, List.length_cons, List.length_nil, List.length_take, le_length, maxLen]; omega) KA.out.size ?_; intro v2 w3 hown2 hk2 _; have O2 := Lib.hid hown2; have K2 := Lib.hid hk2; clear hown2 hk2))
          have KB := Lib.hid (KA.out.app K2.out OA.out (by simp))
          have HO := Lib.hid (show w3.ownsRow wc.heap.size 5 1 v2 ((F.headB ++ F.items.flatMap itemB ++ fours [(F.sums.length : Int)] ++ (F.sums.take k).flatMap sumB) ++ fours [F.sums[k].1] ++ eights [F.sums[k].2.1]).length (((F.headB ++ F.items.flatMap itemB ++ fours [(F.sums.length : Int)] ++ (F.sums.take k).flatMap sumB) ++ fours [F.sums[k].1] ++ eights [F.sums[k].2.1]).map byteV) from (by
            have := own_app O2.out (by simp [le_length])
            simpa [fours, eights] using this))
          obtain ⟨wb, hwb⟩ : ∃ wb, wb = w3 := ⟨_, rfl⟩
          subst hwb
          obtain ⟨v, hv⟩ : ∃ v, v = v2 := ⟨_, rfl⟩
          subst hv
          clear KA OA RA K2 O2
          have hx7 := (HX1.out.keptBlt KB.out hlt).cell 7
          have hltw := Nat.lt_of_lt_of_le hlt KB.out.size
          simp only [List.getElem?_cons_zero, List.getElem?_cons_succ] at hx7
          have HFR := HRD.out.kept0 ((Kept.refl [] wc).thenB KB.out (Nat.le_refl _))
          obtain ⟨s0, s1, s2⟩ := sum_cell HFR hlt1
          clear HFR
          go_wp2_with fail
          refine (rput64_any (wrap64 (F.sums[k].2.2 : Int)) _).mono ?_
          rintro e wa ⟨va, rfl, hown, hk⟩
          obtain ⟨Aa, ca, rfl, _, _, hra, _⟩ := own_form hown
          have RA := Lib.hid hra
          have KA := Lib.hid (KB.out.trans (.of_kept0 hk))
          have OA := Lib.hid (own_kept HO.out hk (fun _ _ => by simp))
          clear hown hk hra KB HO hx7 hltw s0 s1 s2
          go_upto_region 22 with (first | (at_builtin; refine wpList_app _ rfl (.tmp 119) (.tmp 128) _ rfl 5 (.int .u8 0) 1 1 Try.underlying25 infoU8 rfl (by decide) wc.heap.size v _ _ rfl OA.out Aa 8 ca ((le (u64of (wrap64 (F.sums[k].2.2 : Int))) 8).map byteV) rfl (by simp [le_length]) RA.out (by simp [byteV, Value.oneCell']) (by have := HS.out.items; have := HS.out.sums; have := HS.out.trips; simp only [List.length_append, headB_length, fours_length, eights_length, flatB_length _ _ itemB_length, flatB_length _ _ sumB_length, flatB_length _ _ tripB_length, List.length_cons, List.length_nil, List.length_take, le_length, maxLen]; omega) (by have := HS.out.items; have := HS.out.sums; have := HS.out.trips; simp only [List.length_append, headB_length, fours_length, eights_length, flatB_length _ _ itemB_length, flatB_length _ _ sumB_length, flatB_length _ _ tripB_length, List.length_cons, List.length_nil, List.length_take, le_length, maxLen]; omega) KA.out.size ?_; intro v2 w3 hown2 hk2 _; have O2 := Lib.hid hown2; have K2 := Lib.hid hk2; clear hown2 hk2))
          have KB := Lib.hid (KA.out.app K2.out OA.out (by simp))
          have HO := Lib.hid (show w3.ownsRow wc.heap.size 5 1 v2 ((F.headB ++ F.items.flatMap itemB ++ fours [(F.sums.length : Int)] ++ (F.sums.take k).flatMap sumB) ++ fours [F.sums[k].1] ++ eights [F.sums[k].2.1] ++ eights [wrap64 (F.sums[k].2.2 : Int)]).length (((F.headB ++ F.items.flatMap itemB ++ fours [(F.sums.length : Int)] ++ (F.sums.take k).flatMap sumB) ++ fours [F.sums[k].1] ++ eights [F.sums[k].2.1] ++ eights [wrap64 (F.sums[k].2.2 : Int)]).map byteV) from (by
            have := own_app O2.out (by simp [le_length])
            simpa [fours, eights] using this))
          obtain ⟨wb, hwb⟩ : ∃ wb, wb = w3 := ⟨_, rfl⟩
          subst hwb
          obtain ⟨v, hv⟩ : ∃ v, v = v2 := ⟨_, rfl⟩
          subst hv
          clear KA OA RA K2 O2
          go_wp2_with fail
          go_roundw
          case rel =>
            exact ⟨k + 1, by omega, by go_num, Lib.hid (by have := HO.out; rw [flatB_take _ hlt1]; simpa [sumB, fours, eights, u64of_wrap64, List.append_assoc, Nat.add_assoc] using this), KB⟩
          case measure => simp [intOf]; omega
        · have : k = F.sums.length := by omega
          subst this
          rw [List.take_length] at HO
          clear hlt1 hll
          obtain ⟨wb, hwb⟩ : ∃ wb, wb = wr := ⟨_, rfl⟩
          subst hwb
          obtain ⟨v, hv⟩ : ∃ v, v = u6 := ⟨_, rfl⟩
          subst hv
          have hx7 := (HX1.out.keptBlt KB.out hlt).cell 7
          have hltw := Nat.lt_of_lt_of_le hlt KB.out.size
          simp only [List.getElem?_cons_zero, List.getElem?_cons_succ] at hx7
          go_upto_region 26 with (fail)
          clear hx7 hltw
          have hx8 := (HX1.out.keptBlt KB.out hlt).cell 8
          have hltw := Nat.lt_of_lt_of_le hlt KB.out.size
          simp only [List.getElem?_cons_zero, List.getElem?_cons_succ] at hx8
          go_wp2_with fail
          refine (rfour_any ((F.trips.length : Int)) _).mono ?_
          rintro e wa ⟨va, rfl, hown, hk⟩
          obtain ⟨Aa, ca, rfl, _, _, hra, _⟩ := own_form hown
          have RA := Lib.hid hra
          have KA := Lib.hid (KB.out.trans (.of_kept0 hk))
          have OA := Lib.hid (own_kept HO.out hk (fun _ _ => by simp))
          clear hown hk hra KB HO hx8 hltw
          go_upto_region 27 with (first | (at_builtin; refine wpList_app _ rfl (.tmp 130) (.tmp 134) _ rfl 5 (.int .u8 0) 1 1 Try.underlying25 infoU8 rfl (by decide) wc.heap.size v _ _ rfl OA.out Aa 4 ca ((le (u32of ((F.trips.length : Int))) 4).map byteV) rfl (by simp [le_length]) RA.out (by simp [byteV, Value.oneCell']) (by have := HS.out.items; have := HS.out.sums; have := HS.out.trips; simp only [List.length_append, headB_length, fours_length, eights_length, flatB_length _ _ itemB_length, flatB_length _ _ sumB_length, flatB_length _ _ tripB_length, List.length_cons, List.length_nil, List.length_take, le_length, maxLen]; omega) (by have := HS.out.items; have := HS.out.sums; have := HS.out.trips; simp only [List.length_append, headB_length, fours_length, eights_length, flatB_length _ _ itemB_length, flatB_length _ _ sumB_length, flatB_length _ _ tripB_length, List.length_cons, List.length_nil, List.length_take, le_length, maxLen]; omega) KA.out.size ?_; intro v2 w3 hown2 hk2 _; have O2 := Lib.hid hown2; have K2 := Lib.hid hk2; clear hown2 hk2))
          have KB := Lib.hid (KA.out.app K2.out OA.out (by simp))
          have HO := Lib.hid (show w3.ownsRow wc.heap.size 5 1 v2 ((F.headB ++ F.items.flatMap itemB ++ fours [(F.sums.length : Int)] ++ F.sums.flatMap sumB) ++ fours [(F.trips.length : Int)]).length (((F.headB ++ F.items.flatMap itemB ++ fours [(F.sums.length : Int)] ++ F.sums.flatMap sumB) ++ fours [(F.trips.length : Int)]).map byteV) from (by
            have := own_app O2.out (by simp [le_length])
            simpa [fours, eights] using this))
          obtain ⟨wb, hwb⟩ : ∃ wb, wb = w3 := ⟨_, rfl⟩
          subst hwb
          obtain ⟨v, hv⟩ : ∃ v, v = v2 := ⟨_, rfl⟩
          subst hv
          clear KA OA RA K2 O2
          have hx8 := (HX1.out.keptBlt KB.out hlt).cell 8
          have hltw := Nat.lt_of_lt_of_le hlt KB.out.size
          simp only [List.getElem?_cons_zero, List.getElem?_cons_succ] at hx8
          go_wp2_with fail
          go_loopw [6, 9] (fun v i wr => ∃ k : Nat, k ≤ F.trips.length ∧ i = .int .i64 k ∧ Hid (wr.ownsRow wc.heap.size 5 1 v (F.headB ++ F.items.flatMap itemB ++ fours [(F.sums.length : Int)] ++ F.sums.flatMap sumB ++ fours [(F.trips.length : Int)] ++ (F.trips.take k).flatMap tripB).length ((F.headB ++ F.items.flatMap itemB ++ fours [(F.sums.length : Int)] ++ F.sums.flatMap sumB ++ fours [(F.trips.length : Int)] ++ (F.trips.take k).flatMap tripB).map byteV)) ∧ Hid (KeptB wc.heap.size [5] wc wr)) (fun _ i _ => F.trips.length - (intOf i).toNat)
          case atStart => exact ⟨0, Nat.zero_le _, rfl, Lib.hid (by simpa using HO.out), KB⟩
          case round =>
            obtain ⟨k, hk, rfl, HO, KB⟩ := hrel
            have hll := HS.out.trips
            clear hltw hx8
            by_cases hlt1 : k < F.trips.length
            · obtain ⟨bb, off, rfl, hbl, _⟩ := trip_at HF.out.trips hlt1
              have HRD := Lib.hid HF.out.trips
              obtain ⟨wb, hwb⟩ : ∃ wb, wb = wr := ⟨_, rfl⟩
              subst hwb
              obtain ⟨v, hv⟩ : ∃ v, v = u6 := ⟨_, rfl⟩
              subst hv
              have hbl := Nat.lt_of_lt_of_le hbl KB.out.size
              have hx8 := (HX1.out.keptBlt KB.out hlt).cell 8
              have hltw := Nat.lt_of_lt_of_le hlt KB.out.size
              simp only [List.getElem?_cons_zero, List.getElem?_cons_succ] at hx8
              have HFR := HRD.out.kept0 ((Kept.refl [] wc).thenB KB.out (Nat.le_refl _))
              obtain ⟨s0, s1, s2⟩ := trip_cell HFR hlt1
              clear HFR
              go_wp2_with fail
              refine (rfour_any (F.trips[k].1) _).mono ?_
              rintro e wa ⟨va, rfl, hown, hk⟩
              obtain ⟨Aa, ca, rfl, _, _, hra, _⟩ := own_form hown
              have RA := Lib.hid hra
              have KA := Lib.hid (KB.out.trans (.of_kept0 hk))
              have OA := Lib.hid (own_kept HO.out hk (fun _ _ => by simp))
              clear hown hk hra KB HO hx8 hltw s0 s1 s2
              go_upto_region 31 with (first | (at_builtin; refine wpList_app _ rfl (.tmp 143) (.tmp 150) _ rfl 5 (.int .u8 0) 1 1 Try.underlying25 infoU8 rfl (by decide) wc.heap.size v _ _ rfl OA.out Aa 4 ca ((le (u32of (F.trips[k].1)) 4).map byteV) rfl (by simp [le_length]) RA.out (by simp [byteV, Value.oneCell']) (by have := HS.out.items; have := HS.out.sums; have := HS.out.trips; simp only [List.length_append, headB_length, fours_length, eights_length, flatB_length _ _ itemB_length, flatB_length _ _ sumB_length, flatB_length _ _ tripB_length, List.length_cons, List.length_nil, List.length_take, le_length, maxLen]; omega) (by have := HS.out.items; have := HS.out.sums; have := HS.out.trips; simp only [List.length_append, headB_length, fours_length, eights_length, flatB_length _ _ itemB_length, flatB_length _ _ sumB_length, flatB_length _ _ tripB_length, List.length_cons, List.length_nil, List.length_take, le_length, maxLen]; omega) KA.out.size ?_; intro v2 w3 hown2 hk2 _; have O2 := Lib.hid hown2; have K2 := Lib.hid hk2; clear hown2 hk2))
              have KB := Lib.hid (KA.out.app K2.out OA.out (by simp))
              have HO := Lib.hid (show w3.ownsRow wc.heap.size 5 1 v2 ((F.headB ++ F.items.flatMap itemB ++ fours [(F.sums.length : Int)] ++ F.sums.flatMap sumB ++ fours [(F.trips.length : Int)] ++ (F.trips.take k).flatMap tripB) ++ fours [F.trips[k].1]).length (((F.headB ++ F.items.flatMap itemB ++ fours [(F.sums.length : Int)] ++ F.sums.flatMap sumB ++ fours [(F.trips.length : Int)] ++ (F.trips.take k).flatMap tripB) ++ fours [F.trips[k].1]).map byteV) from (by
                have := own_app O2.out (by simp [le_length])
                simpa [fours, eights] using this))
              obtain ⟨wb, hwb⟩ : ∃ wb, wb = w3 := ⟨_, rfl⟩
              subst hwb
              obtain ⟨v, hv⟩ : ∃ v, v = v2 := ⟨_, rfl⟩
              subst hv
              clear KA OA RA K2 O2
              have hx8 := (HX1.out.keptBlt KB.out hlt).cell 8
              have hltw := Nat.lt_of_lt_of_le hlt KB.out.size
              simp only [List.getElem?_cons_zero, List.getElem?_cons_succ] at hx8
              have HFR := HRD.out.kept0 ((Kept.refl [] wc).thenB KB.out (Nat.le_refl _))
              obtain ⟨s0, s1, s2⟩ := trip_cell HFR hlt1
              clear HFR
              go_wp2_with fail
              refine (rfour_any (F.trips[k].2.1) _).mono ?_
              rintro e wa ⟨va, rfl, hown, hk⟩
              obtain ⟨Aa, ca, rfl, _, _, hra, _⟩ := own_form hown
              have RA := Lib.hid hra
              have KA := Lib.hid (KB.out.trans (.of_kept0 hk))
              have OA := Lib.hid (own_kept HO.out hk (fun _ _ => by simp))
              clear hown hk hra KB HO hx8 hltw s0 s1 s2
              go_upto_region 32 with (first | (at_builtin; refine wpList_app _ rfl (.tmp 152) (.tmp 159) _ rfl 5 (.int .u8 0) 1 1 Try.underlying25 infoU8 rfl (by decide) wc.heap.size v _ _ rfl OA.out Aa 4 ca ((le (u32of (F.trips[k].2.1)) 4).map byteV) rfl (by simp [le_length]) RA.out (by simp [byteV, Value.oneCell']) (by have := HS.out.items; have := HS.out.sums; have := HS.out.trips; simp only [List.length_append, headB_length, fours_length, eights_length, flatB_length _ _ itemB_length, flatB_length _ _ sumB_length, flatB_length _ _ tripB_length, List.length_cons, List.length_nil, List.length_take, le_length, maxLen]; omega) (by have := HS.out.items; have := HS.out.sums; have := HS.out.trips; simp only [List.length_append, headB_length, fours_length, eights_length, flatB_length _ _ itemB_length, flatB_length _ _ sumB_length, flatB_length _ _ tripB_length, List.length_cons, List.length_nil, List.length_take, le_length, maxLen]; omega) KA.out.size ?_; intro v2 w3 hown2 hk2 _; have O2 := Lib.hid hown2; have K2 := Lib.hid hk2; clear hown2 hk2))
              have KB := Lib.hid (KA.out.app K2.out OA.out (by simp))
              have HO := Lib.hid (show w3.ownsRow wc.heap.size 5 1 v2 ((F.headB ++ F.items.flatMap itemB ++ fours [(F.sums.length : Int)] ++ F.sums.flatMap sumB ++ fours [(F.trips.length : Int)] ++ (F.trips.take k).flatMap tripB) ++ fours [F.trips[k].1] ++ fours [F.trips[k].2.1]).length (((F.headB ++ F.items.flatMap itemB ++ fours [(F.sums.length : Int)] ++ F.sums.flatMap sumB ++ fours [(F.trips.length : Int)] ++ (F.trips.take k).flatMap tripB) ++ fours [F.trips[k].1] ++ fours [F.trips[k].2.1]).map byteV) from (by
                have := own_app O2.out (by simp [le_length])
                simpa [fours, eights] using this))
              obtain ⟨wb, hwb⟩ : ∃ wb, wb = w3 := ⟨_, rfl⟩
              subst hwb
              obtain ⟨v, hv⟩ : ∃ v, v = v2 := ⟨_, rfl⟩
              subst hv
              clear KA OA RA K2 O2
              have hx8 := (HX1.out.keptBlt KB.out hlt).cell 8
              have hltw := Nat.lt_of_lt_of_le hlt KB.out.size
              simp only [List.getElem?_cons_zero, List.getElem?_cons_succ] at hx8
              have HFR := HRD.out.kept0 ((Kept.refl [] wc).thenB KB.out (Nat.le_refl _))
              obtain ⟨s0, s1, s2⟩ := trip_cell HFR hlt1
              clear HFR
              go_wp2_with fail
              refine (rput64_any (F.trips[k].2.2) _).mono ?_
              rintro e wa ⟨va, rfl, hown, hk⟩
              obtain ⟨Aa, ca, rfl, _, _, hra, _⟩ := own_form hown
              have RA := Lib.hid hra
              have KA := Lib.hid (KB.out.trans (.of_kept0 hk))
              have OA := Lib.hid (own_kept HO.out hk (fun _ _ => by simp))
              clear hown hk hra KB HO hx8 hltw s0 s1 s2
              go_upto_region 29 with (first | (at_builtin; refine wpList_app _ rfl (.tmp 161) (.tmp 168) _ rfl 5 (.int .u8 0) 1 1 Try.underlying25 infoU8 rfl (by decide) wc.heap.size v _ _ rfl OA.out Aa 8 ca ((le (u64of (F.trips[k].2.2)) 8).map byteV) rfl (by simp [le_length]) RA.out (by simp [byteV, Value.oneCell']) (by have := HS.out.items; have := HS.out.sums; have := HS.out.trips; simp only [List.length_append, headB_length, fours_length, eights_length, flatB_length _ _ itemB_length, flatB_length _ _ sumB_length, flatB_length _ _ tripB_length, List.length_cons, List.length_nil, List.length_take, le_length, maxLen]; omega) (by have := HS.out.items; have := HS.out.sums; have := HS.out.trips; simp only [List.length_append, headB_length, fours_length, eights_length, flatB_length _ _ itemB_length, flatB_length _ _ sumB_length, flatB_length _ _ tripB_length, List.length_cons, List.length_nil, List.length_take, le_length, maxLen]; omega) KA.out.size ?_; intro v2 w3 hown2 hk2 _; have O2 := Lib.hid hown2; have K2 := Lib.hid hk2; clear hown2 hk2))
              have KB := Lib.hid (KA.out.app K2.out OA.out (by simp))
              have HO := Lib.hid (show w3.ownsRow wc.heap.size 5 1 v2 ((F.headB ++ F.items.flatMap itemB ++ fours [(F.sums.length : Int)] ++ F.sums.flatMap sumB ++ fours [(F.trips.length : Int)] ++ (F.trips.take k).flatMap tripB) ++ fours [F.trips[k].1] ++ fours [F.trips[k].2.1] ++ eights [F.trips[k].2.2]).length (((F.headB ++ F.items.flatMap itemB ++ fours [(F.sums.length : Int)] ++ F.sums.flatMap sumB ++ fours [(F.trips.length : Int)] ++ (F.trips.take k).flatMap tripB) ++ fours [F.trips[k].1] ++ fours [F.trips[k].2.1] ++ eights [F.trips[k].2.2]).map byteV) from (by
                have := own_app O2.out (by simp [le_length])
                simpa [fours, eights] using this))
              obtain ⟨wb, hwb⟩ : ∃ wb, wb = w3 := ⟨_, rfl⟩
              subst hwb
              obtain ⟨v, hv⟩ : ∃ v, v = v2 := ⟨_, rfl⟩
              subst hv
              clear KA OA RA K2 O2
              go_wp2_with fail
              go_roundw
              case rel =>
                exact ⟨k + 1, by omega, by go_num, Lib.hid (by have := HO.out; rw [flatB_take _ hlt1]; simpa [tripB, fours, eights, u64of_wrap64, List.append_assoc, Nat.add_assoc] using this), KB⟩
              case measure => simp [intOf]; omega
            · have : k = F.trips.length := by omega
              subst this
              rw [List.take_length] at HO
              clear hlt1 hll
              obtain ⟨wb, hwb⟩ : ∃ wb, wb = wr := ⟨_, rfl⟩
              subst hwb
              obtain ⟨v, hv⟩ : ∃ v, v = u6 := ⟨_, rfl⟩
              subst hv
              have hx8 := (HX1.out.keptBlt KB.out hlt).cell 8
              have hltw := Nat.lt_of_lt_of_le hlt KB.out.size
              simp only [List.getElem?_cons_zero, List.getElem?_cons_succ] at hx8
              go_wp2_with fail
              go_ret2
              exact ⟨_, rfl, own_base HO.out K1.out.size, K1.out.trans ((Kept.refl [] wc).thenB KB.out (Nat.le_refl _))⟩
end Go.Proofs.Ytdjidnccockmmaa
