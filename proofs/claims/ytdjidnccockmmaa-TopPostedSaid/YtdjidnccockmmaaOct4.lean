/- The walks of octet.Reader's reads, and the words on a reader in memory. -/
import Derived.Test.YtdjidnccockmmaaOct3
namespace Go.Proofs.Ytdjidnccockmmaa
open Go.RowKit
open Go.RowKit (wrap32 wrap64)

/-- A reader: its bytes, where it stands, its fault. -/
structure Rd where
  b : List UInt8
  pos : Nat
  e : Int
  fat : Int

/-- Block p is that reader (t: the struct's type). -/
structure RdAt (t : TypeId) (w : World) (p : Nat) (R : Rd) : Prop where
  ex : ∃ A cap, Blk w p t [.slice A R.b.length cap, .int .i64 R.pos, .int .i64 R.e, .int .i64 R.fat] ∧ w.ownsRow 0 5 1 (.slice A R.b.length cap) R.b.length (R.b.map byteV)
  le : R.pos ≤ R.b.length
  big : R.b.length ≤ 1073741824

section
set_option maxHeartbeats 1000000
variable (p g : Nat) (l : List UInt8) (cap : Nat) (pos n : Nat) (f : Int) (w : World)

theorem drop_reads {w : World} {l : List UInt8} {g : Nat} {pos n : Nat} (hr : Reads w (some ⟨g, 0, none⟩) (l.map byteV)) : Reads w (some ⟨g, pos, none⟩) (((l.drop pos).take n).map byteV) := by
  intro hx
  obtain ⟨b, off, e, hb, hc⟩ := hr (by rintro h0; simp at h0; subst h0; simp at hx)
  obtain ⟨rfl, rfl⟩ : b = g ∧ off = 0 := by simp at e; exact ⟨e.1.symm, e.2.symm⟩
  refine ⟨b, pos, rfl, hb, fun j u hu => ?_⟩
  have : (l.map byteV)[pos + j]? = some u := by
    rw [List.map_take, List.map_drop, List.getElem?_take] at hu
    split at hu
    · rw [List.getElem?_drop] at hu; exact hu
    · cases hu
  have := hc (pos + j) u this
  rwa [Nat.zero_add] at this

theorem next_ok (hp : pos + n ≤ l.length) (hcap : l.length ≤ cap) (hne : cap ≠ pos) (hl : l.length ≤ 1073741824) (hb : Blk w p 87 [.slice (some ⟨g, 0, none⟩) l.length cap, .int .i64 pos, .int .i64 0, .int .i64 f]) (hr : Reads w (some ⟨g, 0, none⟩) (l.map byteV)) :
    Calls Try.prog 55 #[.pointer (some ⟨p, 0, none⟩), .int .i64 n] w fun x w' => ∃ v, x = .returned v ∧ w'.ownsRow w.heap.size 5 1 v n (((l.drop pos).take n).map byteV) ∧
      Blk w' p 87 [.slice (some ⟨g, 0, none⟩) l.length cap, .int .i64 ((pos + n : Nat) : Int), .int .i64 0, .int .i64 f] ∧ Kept [p] w w' := by
  have h0 := hb.cell 0
  have h1 := hb.cell 1
  have h2 := hb.cell 2
  simp only [List.getElem?_cons_zero, List.getElem?_cons_succ] at h0 h1 h2
  have hlt := hb.lt
  have hf := hb.frozen 1
  have HB := Lib.hid hb
  have HR := Lib.hid hr
  clear hb hr
  have hlen : ((l.drop pos).take n).length = n := by simp; omega
  have Hlen := Lib.hid hlen
  clear hlen
  go_enter Try.func55, Try.ntmps55
  go_wp2_with (go_at_call 98; refine (need_ok p (some ⟨g, 0, none⟩) l.length cap pos n _ (by omega) (by omega) (by omega) (by omega) h0 h1 h2).mono ?_; rintro x w1 ⟨rfl, k1, rfl⟩)
  have hS0 : Kept [] w (w.drewN k1).drew := ((Kept.refl _ _).drewN k1).drew
  have i1 : (0 : Int) ≤ (pos : Int) := by omega
  have i2 : (pos : Int) ≤ (pos : Int) + (n : Int) := by omega
  have i3 : (pos : Int) + (n : Int) ≤ (cap : Int) := by omega
  have i6 : ¬ cap = pos := hne
  have i5 : ((pos : Int) + (n : Int)).toNat = pos + n := by omega
  have i4 : IntKind.i64.wrap ((pos : Int) + (n : Int)) = (pos : Int) + (n : Int) := IntWalk.i64_in _ (by omega)
  go_region_held3 (fun w' => Kept [] w w' ∧ w'.cell? ⟨p, 0, none⟩ = some (.slice (some ⟨g, 0, none⟩) l.length cap) ∧ w'.cell? ⟨p, 1, none⟩ = some (.int .i64 pos)) (first | assumption | exact ⟨hS0, h0, h1⟩) (first | (go_at_call 53; refine (clone_bytes_n ((l.drop pos).take n) n _ _ _ Hlen.out (drop_reads (HR.out.kept0 hS0)) (by omega)).mono ?_; rintro x w2 ⟨v, rfl, hown, hk2⟩; have hS : Kept [] w w2 ∧ w2.cell? ⟨p, 0, none⟩ = some (.slice (some ⟨g, 0, none⟩) l.length cap) ∧ w2.cell? ⟨p, 1, none⟩ = some (.int .i64 pos) := ⟨hS0.trans hk2, ((hS0.trans hk2).cell (p := ⟨p, 0, none⟩) hlt (by simp)).trans h0, ((hS0.trans hk2).cell (p := ⟨p, 1, none⟩) hlt (by simp)).trans h1⟩))
  obtain ⟨hk, hc0, hc1⟩ := hS
  have hf1 := (hk.frozen (p := ⟨p, 1, none⟩) hlt (by simp)).trans hf
  clear i5 hk2 h0 h1 h2 hS0 hc0 hf
  have HK := Lib.hid hk
  have HO := Lib.hid hown
  clear hk hown
  go_wp2
  go_ret
  refine ⟨_, rfl, ?_, ?_, ?_⟩
  · exact ownsRow_setCell_below HO.out (a := ⟨p, 1, none⟩) hlt _
  · have := (HB.out.kept HK.out (by simp)).set 1 (.int .i64 ((pos : Int) + (n : Int)))
    simpa using this
  · exact (HK.out.mono (by simp)).setCell (.inl (by simp)) _

end
theorem run_assert_hit {P : Program} (w : World) (xt t : TypeId) (fs : Array Field) (v : Value) (h : P.underlying t = some (.struct fs)) : (Instr.typeAssert (.iface t v) xt t true).run P w = .ok (.tuple #[v, .bool true]) w := by
  simp [Instr.typeAssert, run_underlying h]
set_option maxHeartbeats 400000 in
theorem caught_idle (a : Option Addr) (w : World) :
    CallsD Try.prog 54 #[.pointer a] .returning w fun e u' w' => e = .returned (.tuple #[]) ∧ u' = .returning ∧ w = w' := by
  refine callsD_of_wpS Try.func54 rfl fun c₀ cs hu => ?_
  refine wpS_seq_k fun K hK => ?_
  apply wpS_region
  simp only [Try.ntmps54, List.size_toArray, List.length_cons, List.length_nil, Nat.reduceAdd, Nat.reduceSub, Array.replicate_succ,
     Array.replicate_zero, List.push_toArray, List.append_toArray, List.nil_append, List.cons_append]
  simp [wpOpsS, go_sem, recoverD, hu, Exit.thenS]
  refine hK _ _ _ (wpS_of_wp ?_)
  clear hK K
  have HU := Lib.hid hu
  clear hu
  go_wp2
  exact postS_ret rfl rfl .returning (by rw [← frame_mode c₀ HU.out]) ⟨rfl, rfl, rfl⟩
set_option maxHeartbeats 400000 in
theorem caught_nil (e a : Int) (older : List PanicEntry) (w : World) :
    CallsD Try.prog 54 #[.pointer none] (.panicking (brk e a :: older)) w fun x u' w' => x = .returned (.tuple #[]) ∧ u' = .panicking ({ brk e a with recovered := true } :: older) ∧ Kept [] w w' := by
  have hta := fun (v : Value) (wx : World) => run_assert_hit (P := Try.prog) wx 20 138 _ v Try.underlying138
  unfold brk
  refine callsD_of_wpS Try.func54 rfl fun c₀ cs hu => ?_
  refine wpS_seq_k fun K hK => ?_
  apply wpS_region
  simp only [Try.ntmps54, List.size_toArray, List.length_cons, List.length_nil, Nat.reduceAdd, Nat.reduceSub, Array.replicate_succ,
     Array.replicate_zero, List.push_toArray, List.append_toArray, List.nil_append, List.cons_append]
  simp [wpOpsS, go_sem, recoverD, hu, Exit.thenS]
  refine hK _ _ _ (wpS_of_wp ?_)
  clear hK K
  have HU := Lib.hid hu
  clear hu
  go_wp2
  exact postS_end rfl rfl _ rfl ⟨rfl, rfl, (Kept.refl _ _).alloc _⟩
set_option maxHeartbeats 400000 in
theorem caught_dead (p : Nat) (e a f : Int) (hf : f ≠ 0) (older : List PanicEntry) (w : World) (h2 : w.cell? ⟨p, 2, none⟩ = some (.int .i64 f)) :
    CallsD Try.prog 54 #[.pointer (some ⟨p, 0, none⟩)] (.panicking (brk e a :: older)) w fun x u' w' => x = .returned (.tuple #[]) ∧ u' = .panicking ({ brk e a with recovered := true } :: older) ∧ Kept [] w w' := by
  have hb : (f == 0) = false := by rw [beq_eq_false_iff_ne]; exact hf
  have hlt := World.block_lt_of_cell? _ _ h2
  clear hf
  have hta := fun (v : Value) (wx : World) => run_assert_hit (P := Try.prog) wx 20 138 _ v Try.underlying138
  unfold brk
  refine callsD_of_wpS Try.func54 rfl fun c₀ cs hu => ?_
  refine wpS_seq_k fun K hK => ?_
  apply wpS_region
  simp only [Try.ntmps54, List.size_toArray, List.length_cons, List.length_nil, Nat.reduceAdd, Nat.reduceSub, Array.replicate_succ,
     Array.replicate_zero, List.push_toArray, List.append_toArray, List.nil_append, List.cons_append]
  simp [wpOpsS, go_sem, recoverD, hu, Exit.thenS]
  refine hK _ _ _ (wpS_of_wp ?_)
  clear hK K
  have HU := Lib.hid hu
  clear hu
  go_wp2
  exact postS_end rfl rfl _ rfl ⟨rfl, rfl, (Kept.refl _ _).alloc _⟩
set_option maxHeartbeats 400000 in
theorem caught_first (p : Nat) (v pos : Value) (e a f : Int) (older : List PanicEntry) (w : World) (hB : Blk w p 87 [v, pos, .int .i64 0, .int .i64 f]) :
    CallsD Try.prog 54 #[.pointer (some ⟨p, 0, none⟩)] (.panicking (brk e a :: older)) w fun x u' w' => x = .returned (.tuple #[]) ∧ u' = .panicking ({ brk e a with recovered := true } :: older) ∧
      Blk w' p 87 [v, pos, .int .i64 e, .int .i64 a] ∧ Kept [p] w w' := by
  have h2 := hB.cell 2
  have h3 := hB.cell 3
  have f2 := hB.frozen 2
  have f3 := hB.frozen 3
  simp only [List.getElem?_cons_zero, List.getElem?_cons_succ] at h2 h3
  have hlt := hB.lt
  have HB := Lib.hid hB
  clear hB
  have hta := fun (v : Value) (wx : World) => run_assert_hit (P := Try.prog) wx 20 138 _ v Try.underlying138
  unfold brk
  refine callsD_of_wpS Try.func54 rfl fun c₀ cs hu => ?_
  refine wpS_seq_k fun K hK => ?_
  apply wpS_region
  simp only [Try.ntmps54, List.size_toArray, List.length_cons, List.length_nil, Nat.reduceAdd, Nat.reduceSub, Array.replicate_succ,
     Array.replicate_zero, List.push_toArray, List.append_toArray, List.nil_append, List.cons_append]
  simp [wpOpsS, go_sem, recoverD, hu, Exit.thenS]
  refine hK _ _ _ (wpS_of_wp ?_)
  clear hK K
  have HU := Lib.hid hu
  clear hu
  go_wp2
  refine postS_end rfl rfl _ rfl ⟨rfl, rfl, ?_, (((Kept.refl [p] w).setCell (p := ⟨p, 2, none⟩) (.inl (List.mem_singleton.2 rfl)) _).setCell (p := ⟨p, 3, none⟩) (.inl (List.mem_singleton.2 rfl)) _).alloc _⟩
  have := ((HB.out.set 2 (.int .i64 e)).set 3 (.int .i64 a)).alloc (.cells #[.int .i64 e, .int .i64 a] 138)
  simpa using this
end Go.Proofs.Ytdjidnccockmmaa
