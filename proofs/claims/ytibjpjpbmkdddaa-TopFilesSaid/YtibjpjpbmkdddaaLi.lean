/- Loader: rows of edges, of triples. -/
import Derived.Test.YtibjpjpbmkdddaaLh
import Derived.Test.YtibjpjpbmkdddaaE22
namespace Go.Proofs.Ytibjpjpbmkdddaa
set_option linter.unusedSimpArgs false
set_option linter.unusedVariables false
open Go.ChangeShapes Go.WideShapes Go.ChangeAt Go.RowKit
open Go.RowKit (wrap32 wrap64)
set_option maxHeartbeats 8000000

section
variable {base : Nat} {T : List TypeId} {w w' : World}
theorem RdAt.keptB {t : TypeId} {p : Nat} {R : Rd} (h : RdAt t w p R) (hk : KeptB base T w w') (ht : t ∉ T) (hu : 5 ∉ T) : RdAt t w' p R := by
  obtain ⟨⟨A, cap, hb, ho⟩, h2, h3⟩ := h
  exact ⟨⟨A, cap, hb.keptB hk ht, own_keptB ho hk hu⟩, h2, h3⟩
end
def lenV : Value → Nat
  | .slice _ n _ => n
  | _ => 0
/-- Edges that are read, one behind the other. -/
def Rd.edges (N k : Int) : Nat → Rd → List Ed → Except (Int × Int) (List Ed × Rd)
  | 0, R, acc => .ok (acc, R)
  | i + 1, R, acc => (R.edge N k).bind fun x => Rd.edges N k i x.2 (acc ++ [x.1])
/-- Triples that are read, one behind the other. -/
def Rd.trips (m c : Int) : Nat → Ed → Rd → List Ed → Except (Int × Int) (List Ed × Rd)
  | 0, _, R, acc => .ok (acc, R)
  | i + 1, last, R, acc => (R.trip m c last).bind fun x => Rd.trips m c i x.1 x.2 (acc ++ [x.1])
/-- How rows ends. -/
def RowsPost (T : TypeId) (p : Nat) (L : List Nat) (w : World) (r : Except (Int × Int) (List Ed × Rd)) (x : Ending) (w' : World) : Prop :=
  match r with
  | .ok (l, R) => (∃ u, x = .returned u ∧ w'.ownsRow w.heap.size T 3 u l.length (l.flatMap edV)) ∧ RdAt 138 w' p R ∧ Kept L w w'
  | .error (e, a) => x = .panicked [stp e a] ∧ Kept L w w'
theorem own_ge {w : World} {base n : Nat} {e : TypeId} {size : Nat} {v : Value} {xs : List Value} (h : w.ownsRow base e size v n xs) {q : Nat} (hq : v.ownBlock = some q) : base ≤ q := by
  rcases h.2 with ⟨rfl, rfl⟩ | ⟨g, cap, cur, hv, hb, _⟩
  · simp [Value.ownBlock] at hq
  · subst hv
    simp [Value.ownBlock] at hq
    omega
theorem infoEdI : Info Try.prog 28 (.agg #[.int .i64 0, .int .i64 0, .int .i64 0]) 3 24 := by unfold Info; kernel_rfl
theorem infoTrI : Info Try.prog 30 (.agg #[.int .i64 0, .int .i64 0, .int .i64 0]) 3 24 := by unfold Info; kernel_rfl

set_option maxRecDepth 100000 in
theorem rowsE_any (p q g kb : Nat) (R : Rd) (N k : Int) (gv : Value) (many : Nat) (w : World) (h : RdAt 138 w p R) (hq : Blk w q 77 [.pointer (some ⟨p, 0, none⟩)]) (hg : Blk w g 24 [.int .i64 N, gv]) (hkb : Blk w kb 5 [.int .u8 k]) (hn : 0 ≤ N ∧ N ≤ 4096) (hk1 : k = 0 ∨ k = 1) (hi : many ≤ 65536) :
    Calls Try.prog 73 #[.int .i64 many, .func (.func 74) #[] #[.pointer (some ⟨q, 0, none⟩), .pointer (some ⟨g, 0, none⟩), .pointer (some ⟨kb, 0, none⟩)]] w (RowsPost 28 p [p] w (Rd.edges N k many R [])) := by
  have H := Lib.hid h
  have HQ := Lib.hid hq
  have HG := Lib.hid hg
  have HK := Lib.hid hkb
  have K0 := Lib.hid (Kept.refl [p] w)
  clear h hq hg hkb
  obtain ⟨post, hpost⟩ : ∃ post : Ending → World → Prop, post = RowsPost 28 p [p] w (Rd.edges N k many R []) := ⟨_, rfl⟩
  rw [← hpost]
  have HPOST := Lib.hid hpost
  clear hpost
  go_enter Try.func73, Try.ntmps73
  go_wp2_with fail
  go_loopw [5] (fun v wr => ∃ (acc : List Ed) (Ri : Rd), acc.length ≤ many ∧ Hid (wr.ownsRow w.heap.size 28 3 v acc.length (acc.flatMap edV)) ∧ Hid (RdAt 138 wr p Ri) ∧ Hid (Blk wr q 77 [.pointer (some ⟨p, 0, none⟩)]) ∧ Hid (Blk wr g 24 [.int .i64 N, gv]) ∧ Hid (Blk wr kb 5 [.int .u8 k]) ∧ Hid (Kept [p] w wr) ∧ Hid (Rd.edges N k many R [] = Rd.edges N k (many - acc.length) Ri acc)) (fun v _ => many - lenV v)
  case atStart => exact ⟨[], R, Nat.zero_le _, Lib.hid (World.ownsRow_nil _ _ _ _), H, HQ, HG, HK, K0, Lib.hid rfl⟩
  case round =>
    clear H HQ HG HK K0
    obtain ⟨acc, Ri, hacc, HO, H, HQ, HG, HK, K0, E⟩ := hrel
    obtain ⟨v, hv⟩ : ∃ v, v = u5 := ⟨_, rfl⟩
    subst hv
    obtain ⟨A5, c5, rfl⟩ := own_n HO.out
    by_cases hlt : acc.length < many
    · have hlt2 : (acc.length : Int) < (many : Int) := by omega
      obtain ⟨i, hi2⟩ : ∃ i, many - acc.length = i + 1 := ⟨many - acc.length - 1, by omega⟩
      rw [hi2] at E
      go_wp2_with fail
      refine (edge_any p q g kb Ri N k gv _ H.out HQ.out HG.out HK.out hn hk1).mono ?_
      intro x w3 hx
      rcases hr : Ri.edge N k with ⟨e, a⟩ | ⟨e, R'⟩
      · rw [hr] at hx
        obtain ⟨rfl, hk⟩ := hx
        have K := Lib.hid (K0.out.trans hk)
        have E1 := Lib.hid hr
        clear hk hr
        go_wp2_with fail
        refine ⟨rfl, ?_⟩
        rw [HPOST.out, E.out]
        simp only [Rd.edges, E1.out, Except.bind]
        exact ⟨rfl, K.out⟩
      rw [hr] at hx
      obtain ⟨rfl, hrd, hk⟩ := hx
      have E1 := Lib.hid (E.out.trans (show Rd.edges N k (i + 1) Ri acc = _ by simp only [Rd.edges, hr, Except.bind]; rfl))
      replace HO := Lib.hid (own_kept HO.out hk (fun z hz hm => by
        simp only [List.mem_singleton] at hm
        subst hm
        obtain ⟨_, _, hp, _⟩ := H.out.ex
        exact own_ne_blk HO.out hp (by decide) hz))
      replace HQ := Lib.hid (HQ.out.kept hk (rd_ne H.out HQ.out (by decide)))
      replace HG := Lib.hid (HG.out.kept hk (rd_ne H.out HG.out (by decide)))
      replace HK := Lib.hid (HK.out.kept hk (rd_ne H.out HK.out (by decide)))
      replace H := Lib.hid hrd
      replace K0 := Lib.hid (K0.out.trans hk)
      clear hk hr hrd E
      obtain ⟨y1, y2, y3⟩ := e
      simp only [edV]
      have hsz := K0.out.size
      go_wp2_with (first | (at_builtin; refine wpList_app _ rfl (.tmp 10) (.tmp 13) _ rfl 28 (.agg #[.int .i64 0, .int .i64 0, .int .i64 0]) 3 24 Try.underlying22 infoEdI rfl (by decide) w.heap.size (.slice A5 acc.length c5) _ _ rfl (HO.out.alloc _) (some ⟨_, 0, none⟩) 1 1 (edV (y1, y2, y3)) rfl rfl (Reads.of_blk (Blk.new _ _ _) (fun _ _ h => h)) (by simp [edV, Value.oneCell']) (by omega) (by unfold maxLen; omega) (by simp; omega) ?_; intro va wa howna hka hba; have HOa := Lib.hid howna; have Fa := Lib.hid (((KeptB.refl w.heap.size [28] w3).alloc _).app hka (HO.out.alloc _) (by decide)); clear howna hka hba))
      go_roundw
      case rel =>
        refine ⟨acc ++ [(y1, y2, y3)], R', by simp; omega, Lib.hid ?_, Lib.hid (H.out.keptB Fa.out (by decide) (by decide)), Lib.hid (HQ.out.keptB Fa.out (by decide)), Lib.hid (HG.out.keptB Fa.out (by decide)), Lib.hid (HK.out.keptB Fa.out (by decide)), Lib.hid ?_, Lib.hid ?_⟩
        · have := HOa.out
          simpa using this
        · exact ⟨Fa.out.os.trans K0.out.os, Fa.out.tape.trans K0.out.tape, Fa.out.output.trans K0.out.output, Nat.le_trans K0.out.size Fa.out.size, fun k hk hL => (Fa.out.block k (Nat.lt_of_lt_of_le hk K0.out.size) (.inl hk)).trans (K0.out.block k hk hL)⟩
        · rw [show many - (acc ++ [(y1, y2, y3)]).length = i by simp; omega]
          exact E1.out
      case measure =>
        obtain ⟨A6, c6, rfl⟩ := own_n HOa.out
        simp [lenV]
        omega
    · have hlt2 : ¬ (acc.length : Int) < (many : Int) := by omega
      have hz : many - acc.length = 0 := by omega
      rw [hz] at E
      go_wp2_with fail
      rw [HPOST.out, E.out]
      exact ⟨⟨_, rfl, HO.out⟩, H.out, K0.out⟩

set_option maxRecDepth 100000 in
theorem rowsT_any (p q mb cb lb : Nat) (R : Rd) (m c : Int) (last : Ed) (many : Nat) (w : World) (h : RdAt 138 w p R) (hq : Blk w q 77 [.pointer (some ⟨p, 0, none⟩)]) (hm : Blk w mb 3 [.int .i64 m]) (hc : Blk w cb 3 [.int .i64 c]) (hla : Blk w lb 30 (edV last)) (hlb : lb < w.heap.size) (hmn : 0 ≤ m ∧ m ≤ 4096) (hcn : 0 ≤ c ∧ c ≤ 4096) (hi : many ≤ 65536) :
    Calls Try.prog 40 #[.int .i64 many, .func (.func 41) #[] #[.pointer (some ⟨q, 0, none⟩), .pointer (some ⟨mb, 0, none⟩), .pointer (some ⟨cb, 0, none⟩), .pointer (some ⟨lb, 0, none⟩)]] w (RowsPost 30 p [p, lb] w (Rd.trips m c many last R [])) := by
  have H := Lib.hid h
  have HQ := Lib.hid hq
  have HM := Lib.hid hm
  have HC := Lib.hid hc
  have HLA := Lib.hid hla
  have K0 := Lib.hid (Kept.refl [p, lb] w)
  clear h hq hm hc hla
  obtain ⟨post, hpost⟩ : ∃ post : Ending → World → Prop, post = RowsPost 30 p [p, lb] w (Rd.trips m c many last R []) := ⟨_, rfl⟩
  rw [← hpost]
  have HPOST := Lib.hid hpost
  clear hpost
  go_enter Try.func40, Try.ntmps40
  go_wp2_with fail
  go_loopw [5] (fun v wr => ∃ (acc : List Ed) (Ri : Rd) (la : Ed), acc.length ≤ many ∧ Hid (wr.ownsRow w.heap.size 30 3 v acc.length (acc.flatMap edV)) ∧ Hid (RdAt 138 wr p Ri) ∧ Hid (Blk wr q 77 [.pointer (some ⟨p, 0, none⟩)]) ∧ Hid (Blk wr mb 3 [.int .i64 m]) ∧ Hid (Blk wr cb 3 [.int .i64 c]) ∧ Hid (Blk wr lb 30 (edV la)) ∧ Hid (∀ q, v.ownBlock = some q → q ≠ lb) ∧ Hid (Kept [p, lb] w wr) ∧ Hid (Rd.trips m c many last R [] = Rd.trips m c (many - acc.length) la Ri acc)) (fun v _ => many - lenV v)
  case atStart => exact ⟨[], R, last, Nat.zero_le _, Lib.hid (World.ownsRow_nil _ _ _ _), H, HQ, HM, HC, HLA, Lib.hid (fun q hq => by simp [Value.ownBlock] at hq), K0, Lib.hid rfl⟩
  case round =>
    clear H HQ HM HC HLA K0
    obtain ⟨acc, Ri, la, hacc, HO, H, HQ, HM, HC, HLA, HNL, K0, E⟩ := hrel
    obtain ⟨v, hv⟩ : ∃ v, v = u5 := ⟨_, rfl⟩
    subst hv
    obtain ⟨A5, c5, rfl⟩ := own_n HO.out
    by_cases hlt : acc.length < many
    · have hlt2 : (acc.length : Int) < (many : Int) := by omega
      obtain ⟨i, hi2⟩ : ∃ i, many - acc.length = i + 1 := ⟨many - acc.length - 1, by omega⟩
      rw [hi2] at E
      go_wp2_with fail
      refine (trip_any p q mb cb lb Ri m c la _ H.out HQ.out HM.out HC.out HLA.out hmn hcn).mono ?_
      intro x w3 hx
      rcases hr : Ri.trip m c la with ⟨e, a⟩ | ⟨e, R'⟩
      · rw [hr] at hx
        obtain ⟨rfl, hk⟩ := hx
        have K := Lib.hid (K0.out.then hk (by simp))
        have E1 := Lib.hid hr
        clear hk hr
        go_wp2_with fail
        refine ⟨rfl, ?_⟩
        rw [HPOST.out, E.out]
        simp only [Rd.trips, E1.out, Except.bind]
        exact ⟨rfl, K.out⟩
      rw [hr] at hx
      obtain ⟨rfl, hrd, hla2, hk⟩ := hx
      have E1 := Lib.hid (E.out.trans (show Rd.trips m c (i + 1) la Ri acc = _ by simp only [Rd.trips, hr, Except.bind]; rfl))
      replace HO := Lib.hid (own_kept HO.out hk (fun z hz hm => by
        simp only [List.mem_cons, List.not_mem_nil, or_false] at hm
        rcases hm with rfl | rfl
        · obtain ⟨_, _, hp, _⟩ := H.out.ex
          exact own_ne_blk HO.out hp (by decide) hz
        · exact HNL.out _ hz rfl))
      replace HQ := Lib.hid (HQ.out.kept hk (by have h1 := rd_ne H.out HQ.out (by decide); have h2 := HQ.out.ne HLA.out (by decide); simp at h1 ⊢; exact ⟨h1, h2⟩))
      replace HM := Lib.hid (HM.out.kept hk (by have h1 := rd_ne H.out HM.out (by decide); have h2 := HM.out.ne HLA.out (by decide); simp at h1 ⊢; exact ⟨h1, h2⟩))
      replace HC := Lib.hid (HC.out.kept hk (by have h1 := rd_ne H.out HC.out (by decide); have h2 := HC.out.ne HLA.out (by decide); simp at h1 ⊢; exact ⟨h1, h2⟩))
      replace HLA := Lib.hid hla2
      replace H := Lib.hid hrd
      replace K0 := Lib.hid (K0.out.trans hk)
      clear hk hr hrd E hla2
      obtain ⟨y1, y2, y3⟩ := e
      simp only [edV]
      have hsz := K0.out.size
      go_wp2_with (first | (at_builtin; refine wpList_app _ rfl (.tmp 10) (.tmp 13) _ rfl 30 (.agg #[.int .i64 0, .int .i64 0, .int .i64 0]) 3 24 Try.underlying26 infoTrI rfl (by decide) w.heap.size (.slice A5 acc.length c5) _ _ rfl (HO.out.alloc _) (some ⟨_, 0, none⟩) 1 1 (edV (y1, y2, y3)) rfl rfl (Reads.of_blk (Blk.new _ _ _) (fun _ _ h => h)) (by simp [edV, Value.oneCell']) (by omega) (by unfold maxLen; omega) (by simp; omega) ?_; intro va wa howna hka hba; have HOa := Lib.hid howna; have Fa := Lib.hid (((KeptB.refl w.heap.size [30] w3).alloc _).app hka (HO.out.alloc _) (by decide)); clear howna hka hba))
      go_roundw
      case rel =>
        refine ⟨acc ++ [(y1, y2, y3)], R', (y1, y2, y3), by simp; omega, Lib.hid ?_, Lib.hid (H.out.keptB Fa.out (by decide) (by decide)), Lib.hid (HQ.out.keptB Fa.out (by decide)), Lib.hid (HM.out.keptB Fa.out (by decide)), Lib.hid (HC.out.keptB Fa.out (by decide)), Lib.hid (HLA.out.keptBlt Fa.out hlb), Lib.hid (fun q hq hl => by subst hl; have := own_ge HOa.out hq; omega), Lib.hid ?_, Lib.hid ?_⟩
        · have := HOa.out
          simpa using this
        · exact ⟨Fa.out.os.trans K0.out.os, Fa.out.tape.trans K0.out.tape, Fa.out.output.trans K0.out.output, Nat.le_trans K0.out.size Fa.out.size, fun k hk hL => (Fa.out.block k (Nat.lt_of_lt_of_le hk K0.out.size) (.inl hk)).trans (K0.out.block k hk hL)⟩
        · rw [show many - (acc ++ [(y1, y2, y3)]).length = i by simp; omega]
          exact E1.out
      case measure =>
        obtain ⟨A6, c6, rfl⟩ := own_n HOa.out
        simp [lenV]
        omega
    · have hlt2 : ¬ (acc.length : Int) < (many : Int) := by omega
      have hz : many - acc.length = 0 := by omega
      rw [hz] at E
      go_wp2_with fail
      rw [HPOST.out, E.out]
      exact ⟨⟨_, rfl, HO.out⟩, H.out, K0.out⟩
end Go.Proofs.Ytibjpjpbmkdddaa
