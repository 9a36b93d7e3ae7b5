/- The contracts of octet.Reader's reads, said of a reader in memory. -/
import Derived.Test.YtdjidnccockmmaaOct4
namespace Go.Proofs.Ytdjidnccockmmaa
open Go.RowKit
open Go.RowKit (wrap32 wrap64)

/-- Can so many bytes be read? -/
def Rd.can (R : Rd) (n : Int) : Prop := R.e = 0 ∧ 0 ≤ n ∧ n ≤ (R.b.length : Int) - R.pos
instance (R : Rd) (n : Int) : Decidable (R.can n) := by unfold Rd.can; infer_instance
/-- What is read. -/
def Rd.got (R : Rd) (n : Int) : List UInt8 := if R.can n then (R.b.drop R.pos).take n.toNat else []
/-- The reader behind a read. -/
def Rd.after (R : Rd) (n : Int) : Rd :=
  if R.e ≠ 0 then R else if n < 0 then { R with e := 3, fat := R.pos } else if (R.b.length : Int) - R.pos < n then { R with e := 2, fat := R.b.length } else { R with pos := R.pos + n.toNat }
theorem Rd.after_can {R : Rd} {n : Int} (h : R.can n) : R.after n = { R with pos := R.pos + n.toNat } := by
  obtain ⟨h1, h2, h3⟩ := h
  unfold Rd.after
  rw [if_neg (by simp [h1]), if_neg (by omega), if_neg (by omega)]
theorem Rd.got_length {R : Rd} {n : Int} (h : R.can n) : (R.got n).length = n.toNat := by
  unfold Rd.got
  rw [if_pos h]
  obtain ⟨h1, h2, h3⟩ := h
  simp
  omega

set_option maxHeartbeats 1000000 in
theorem next_zero (p : Nat) (A : Option Addr) (len : Nat) (f : Int) (w : World) (hl : len ≤ 1073741824) (hb : Blk w p 87 [.slice A len len, .int .i64 len, .int .i64 0, .int .i64 f]) :
    Calls Try.prog 55 #[.pointer (some ⟨p, 0, none⟩), .int .i64 0] w fun x w' => ∃ v, x = .returned v ∧ w'.ownsRow w.heap.size 5 1 v 0 [] ∧
      Blk w' p 87 [.slice A len len, .int .i64 len, .int .i64 0, .int .i64 f] ∧ Kept [p] w w' := by
  have h0 := hb.cell 0
  have h1 := hb.cell 1
  have h2 := hb.cell 2
  simp only [List.getElem?_cons_zero, List.getElem?_cons_succ] at h0 h1 h2
  have hlt := hb.lt
  have hf := hb.frozen 1
  have HB := Lib.hid hb
  clear hb
  go_enter Try.func55, Try.ntmps55
  go_wp2_with (go_at_call 98; refine (need_ok p A len len len 0 _ (by omega) (by omega) (by omega) (by omega) h0 h1 h2).mono ?_; rintro x w1 ⟨rfl, k1, rfl⟩)
  have hS0 : Kept [] w (w.drewN k1).drew := ((Kept.refl _ _).drewN k1).drew
  have i1 : (0 : Int) ≤ (len : Int) := by omega
  have i3 : (len : Int) ≤ (len : Int) + 0 := by omega
  have i4 : IntKind.i64.wrap ((len : Int) + 0) = (len : Int) := by rw [Int.add_zero]; exact IntWalk.i64_in _ (by omega)
  have i7 : IntKind.i64.wrap (len : Int) = (len : Int) := IntWalk.i64_in _ (by omega)
  go_region_held3 (fun w' => Kept [] w w' ∧ w'.cell? ⟨p, 0, none⟩ = some (.slice A len len) ∧ w'.cell? ⟨p, 1, none⟩ = some (.int .i64 len)) (first | assumption | exact ⟨hS0, h0, h1⟩) (first | (go_at_call 53; refine (clone_bytes_n [] 0 _ _ _ rfl (Reads.nil _ _) (by omega)).mono ?_; rintro x w2 ⟨v, rfl, hown, hk2⟩; have hS : Kept [] w w2 ∧ w2.cell? ⟨p, 0, none⟩ = some (.slice A len len) ∧ w2.cell? ⟨p, 1, none⟩ = some (.int .i64 len) := ⟨hS0.trans hk2, ((hS0.trans hk2).cell (p := ⟨p, 0, none⟩) hlt (by simp)).trans h0, ((hS0.trans hk2).cell (p := ⟨p, 1, none⟩) hlt (by simp)).trans h1⟩))
  obtain ⟨hk, hc0, hc1⟩ := hS
  have hf1 := (hk.frozen (p := ⟨p, 1, none⟩) hlt (by simp)).trans hf
  clear hk2 h0 h1 h2 hS0 hc0 hf
  have HK := Lib.hid hk
  have HO := Lib.hid hown
  clear hk hown
  go_wp2
  go_ret
  refine ⟨_, rfl, ?_, ?_, ?_⟩
  · exact ownsRow_setCell_below HO.out (a := ⟨p, 1, none⟩) hlt _
  · have := (HB.out.kept HK.out (by simp)).set 1 (.int .i64 (len : Int))
    simpa using this
  · exact (HK.out.mono (by simp)).setCell (.inl (by simp)) _

set_option maxHeartbeats 1000000 in
theorem next_good (p : Nat) (R : Rd) (n : Int) (w : World) (h : RdAt 87 w p R) (hc : R.can n) :
    Calls Try.prog 55 #[.pointer (some ⟨p, 0, none⟩), .int .i64 n] w fun x w' => ∃ v, x = .returned v ∧ w'.ownsRow w.heap.size 5 1 v (R.got n).length ((R.got n).map byteV) ∧
      RdAt 87 w' p (R.after n) ∧ Kept [p] w w' := by
  obtain ⟨⟨A, cap, hb, hown⟩, hle, hbig⟩ := h
  have hgl := Rd.got_length hc
  have hac := Rd.after_can hc
  obtain ⟨he, hn0, hn⟩ := hc
  have hgot : R.got n = (R.b.drop R.pos).take n.toNat := by unfold Rd.got; rw [if_pos ⟨he, hn0, hn⟩]
  obtain ⟨m, rfl⟩ := Int.eq_ofNat_of_zero_le hn0
  simp only [Int.toNat_natCast] at hgl hac hgot
  rw [he] at hb
  obtain ⟨A', cap', hv, hlc, hcm, hr, hf⟩ := own_form hown
  injection hv with hA hlen hcap
  subst hA hcap
  have finish : (Calls Try.prog 55 #[.pointer (some ⟨p, 0, none⟩), .int .i64 (m : Int)] w fun x w' => ∃ v, x = .returned v ∧ w'.ownsRow w.heap.size 5 1 v m (((R.b.drop R.pos).take m).map byteV) ∧
      Blk w' p 87 [.slice A R.b.length cap, .int .i64 ((R.pos + m : Nat) : Int), .int .i64 0, .int .i64 R.fat] ∧ Kept [p] w w') → 
      Calls Try.prog 55 #[.pointer (some ⟨p, 0, none⟩), .int .i64 (m : Int)] w fun x w' => ∃ v, x = .returned v ∧ w'.ownsRow w.heap.size 5 1 v (R.got m).length ((R.got m).map byteV) ∧
      RdAt 87 w' p (R.after m) ∧ Kept [p] w w' := by
    intro H
    refine H.mono ?_
    rintro x w' ⟨v, rfl, ho, hb', hk⟩
    refine ⟨v, rfl, ?_, ?_, hk⟩
    · rw [hgl, hgot]; exact ho
    · rw [hac]
      refine ⟨⟨A, cap, by rw [he]; exact hb', own_kept hown hk ?_⟩, by simp only; omega, hbig⟩
      intro g hg hm
      simp at hm
      subst hm
      exact own_ne_blk hown hb (by decide) hg
  refine finish ?_
  have zero : cap = R.pos → Calls Try.prog 55 #[.pointer (some ⟨p, 0, none⟩), .int .i64 (m : Int)] w fun x w' => ∃ v, x = .returned v ∧ w'.ownsRow w.heap.size 5 1 v m (((R.b.drop R.pos).take m).map byteV) ∧
      Blk w' p 87 [.slice A R.b.length cap, .int .i64 ((R.pos + m : Nat) : Int), .int .i64 0, .int .i64 R.fat] ∧ Kept [p] w w' := by
    intro hcp
    have e1 : R.b.length = R.pos := by omega
    have e2 : m = 0 := by omega
    subst e2
    have H := next_zero p A R.b.length R.fat w hbig (by rw [hcp, ← e1] at hb; exact hb)
    refine H.mono ?_
    rintro x w' ⟨v, rfl, ho, hb', hk⟩
    refine ⟨v, rfl, by simpa using ho, ?_, hk⟩
    rw [hcp, ← e1]
    exact hb'
  rcases A with _ | ad
  · refine zero ?_
    rcases hown.2 with ⟨h, _⟩ | ⟨g, _, _, h, _⟩
    · injection h with _ h1 h2
      omega
    · simp at h
  · obtain ⟨g, rfl, _, hglt⟩ := hf ad rfl
    by_cases hcp : cap = R.pos
    · exact zero hcp
    · exact next_ok p g R.b cap R.pos m R.fat w (by omega) hlc hcp hbig hb hr
end Go.Proofs.Ytdjidnccockmmaa
