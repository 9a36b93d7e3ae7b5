/- A range over a function whose contract says what lies in memory behind it. Conditions: the body never leaves the loop. -/
import Derived.Test.YtblfingmdipopaaGreatM47
import Derived.Test.YtblfingmdipopaaGreatM38
import Derived.Test.YtblfingmdipopaaGreatM46
namespace Go.Proofs.YtblfingmdipopaaGreat
set_option linter.unusedSimpArgs false
set_option linter.unusedVariables false
open Go.RowKit
set_option maxHeartbeats 8000000
section
variable {F : Fence} {n : Nat} {P : Program}
/-- An iterator's contract: it keeps the loop's record and the block of deferred calls; what it says of the world behind. -/
def SeqW {α : Type} (F : Fence) (n : Nat) (P : Program) (g : Nat) (lb : Array Value) (encs : α → Array Value) (Kp : World → World → Prop) (I : List α → World → Prop) (S : World → Prop) (w : World) : Prop :=
  ∀ (l D : Nat) (lo : Obj) (W1 : World), w.heap.size ≤ D → w.heap.size ≤ l → Below w.heap.size w W1 → lo.isCells = false →
    W1.heap[l]? = some lo → W1.heap[D]? = some (.deferred (some [])) →
    (∀ pre x W, I pre W → W.heap[l]? = some lo → W.heap[D]? = some (.deferred (some [])) → YieldAt F (n - 1) P l (encs x) W fun e W' => e = .returned (.bool true) ∧ I (pre ++ [x]) W' ∧ W'.heap[l]? = some lo ∧ W'.heap[D]? = some (.deferred (some [])) ∧ Kp W W') →
    I [] W1 →
    CallsIn F n P g (#[.func (.yield l) #[] #[]] ++ lb) W1 fun e W2 => (∃ v, e = .returned v) ∧ S W2 ∧ W2.heap[l]? = some lo ∧ W2.heap[D]? = some (.deferred (some []))
/-- How the body of a round is left: it goes on. -/
def onPost {α : Type} (Kp : World → World → Prop) (I : List α → World → Prop) (xs : List α) (W : World) : Exit → Act → World → Prop
  | .normal, _, W' => KeepsOthers W W' ∧ Kp W W' ∧ I xs W'
  | _, _, _ => False
theorem wpIn_rangeFunc_W {α : Type} {g : Operand} {ps : Array Tmp} {assign body : Code} {Q : Exit → Act → World → Prop} {a : Act} {w : World}
    (hro : F.round = none) (h1 : 1 ≤ n) {gf : Nat} {lb : Array Value} (hg : a.eval g = .func (.func gf) #[] lb) (hFg : F.fn gf) (eg : ∀ args w, (callFunc gf args).run P w = .ok (.enter gf args) w)
    {encs : α → Array Value} {Kp : World → World → Prop} {I : List α → World → Prop} {S : World → Prop} (hseq : SeqW F (n - 1) P gf lb encs Kp I S w)
    (hKt : ∀ {A B C : World}, Kp A B → Kp B C → Kp A C) (hKb : ∀ (W : World) (l : Nat) (o o' : Obj), w.heap.size ≤ l → W.heap[l]? = some o → o.isCells = false → o.isWalk = false → Kp W (W.putObj l o')) (hps : ∀ x, (encs x).size = ps.size)
    (hIa : ∀ s W o, I s W → I s (W.alloc o)) (hIp : ∀ s (W : World) l o o', I s W → w.heap.size ≤ l → W.heap[l]? = some o → o.isCells = false → I s (W.putObj l o'))
    (hSp : ∀ (W : World) l o o', S W → w.heap.size ≤ l → W.heap[l]? = some o → o.isCells = false → S (W.putObj l o')) (h0 : I [] w) (Ax : α → Act → World → Prop)
    (hAx : ∀ x a' (W : World) l o o', Ax x a' W → w.heap.size ≤ l → W.heap[l]? = some o → o.isCells = false → Ax x a' (W.putObj l o'))
    (hassign : ∀ (l : Nat) (pre : List α) (x : α) (W : World) (K : Act → World → Prop), I pre W → (∀ a' W', KeepsOthers W W' → Kp W W' → I pre W' → Ax x a' W' → K a' W') →
      assign.wpIn (F.inRound l) (n - 1 - 1) P (Exit.then K (fun _ _ _ => False)) { tmps := (ps.zip (encs x)).foldl (fun t (p, v) => t.setIfInBounds p v) a.tmps, defers := [] } W)
    (hbody : ∀ (l : Nat) (pre : List α) (x : α) (a' : Act) (W : World), Ax x a' W → I pre W → body.wpIn (F.inRound l) (n - 1 - 1) P (onPost Kp I (pre ++ [x]) W) a' W)
    (hdone : ∀ (D : Nat) (W : World), w.heap.size ≤ D → S W → W.heap[D]? = some (.deferred (some [])) → Q .normal { a with defers := { target := .collected D, args := #[] } :: a.defers } W) :
    (Code.rangeFunc g ps assign body).wpIn F n P Q a w := by
  refine wpIn_rangeFunc ?_
  intro fn hfn
  rw [hro]
  obtain ⟨rec, hrec⟩ : ∃ rec : LoopState → Option Code → Loop, rec = fun st pe => { state := st, pending := pe, fn, tmps := a.tmps, params := ps, assign, body, defers := w.heap.size } := ⟨_, rfl⟩
  obtain ⟨W1, hW1⟩ : ∃ W1, (w.alloc (.deferred (some []))).alloc (.loop (rec .ready none)) = W1 := ⟨_, rfl⟩
  have hL1 : W1.heap[w.heap.size + 1]? = some (.loop (rec .ready none)) := by
    rw [← hW1]; have := World.alloc_heap_new (w.alloc (.deferred (some []))) (.loop (rec .ready none)); rwa [World.size_alloc] at this
  have hK1 : W1.heap[w.heap.size]? = some (.deferred (some [])) := by
    rw [← hW1]; exact (Below.heap_alloc _ _ _ (by simp)).trans (World.alloc_heap_new w _)
  have hI1 : I [] W1 := by rw [← hW1]; exact hIa _ _ _ (hIa _ _ _ h0)
  have hb1 : Below w.heap.size w W1 := by
    rw [← hW1]; exact (((Below.refl _ w).alloc (Nat.le_refl _) _).alloc (by simp) _)
  refine ⟨w.heap.size + 1, [{ target := .collected w.heap.size, args := #[] }], W1, { target := .fn (.func gf) lb, args := #[.func (.yield (w.heap.size + 1)) #[] #[]] }, W1, gf,
    #[.func (.yield (w.heap.size + 1)) #[] #[]] ++ lb, W1, ?_, ?_, ?_, ?_, fun _ => h1, ?_⟩
  · rw [← hW1, hrec]; exact run_enterLoop_outer _ _ _ _ _
  · simp only [resolve, hg]
    simp [go_sem]
  · intro f' hf'; simp [Target.leads] at hf'; subst hf'; exact hFg
  · simp [invoke, go_sem, eg]
  · refine (hseq (w.heap.size + 1) w.heap.size (.loop (rec .ready none)) W1 (Nat.le_refl _) (by omega) hb1 rfl hL1 hK1 ?_ hI1).mono ?_
    · rintro pre x W hi hl hk
      have hlt : w.heap.size + 1 < W.heap.size := (Array.getElem?_eq_some_iff.1 hl).1
      have hy := run_yield (P := P) (args := encs x) hl (by rw [hrec]; exact hps x)
      rw [hrec] at hy
      refine ⟨fn, _, assign, body, hy, roundIn_of_wpIn hfn (hassign _ pre x W _ hi ?_)⟩
      intro a1 Wa hka hkpa hia hax
      have hla := hka.same _ _ hl rfl
      have hkka := hka.same _ _ hk rfl
      have hlta : w.heap.size + 1 < Wa.heap.size := Nat.lt_of_lt_of_le hlt hka.size
      refine ⟨_, run_beginRound hla (by rw [hrec]), ?_⟩
      have hl2 : (Wa.putObj (w.heap.size + 1) (.loop { rec .ready none with state := .busy })).heap[w.heap.size + 1]? = some (.loop { rec .ready none with state := .busy }) := World.putObj_heap_same hlta
      have hk2 : (Wa.putObj (w.heap.size + 1) (.loop { rec .ready none with state := .busy })).heap[w.heap.size]? = some (.deferred (some [])) := (World.putObj_heap_other (by omega)).trans hkka
      have hw2 : Kp W (Wa.putObj (w.heap.size + 1) (.loop { rec .ready none with state := .busy })) := hKt hkpa (hKb _ _ _ _ (by omega) hla rfl rfl)
      refine wpIn_mono (hbody _ pre x _ _ (hAx _ _ _ _ _ _ hax (by omega) hla rfl) (hIp _ _ _ _ _ hia (by omega) hla rfl)) ?_
      rintro e a3 W3 hp
      cases e with
      | normal =>
        obtain ⟨hk3, hkp3, hi3⟩ := hp
        have hl3 := hk3.same _ _ hl2 rfl
        have hr := run_endRound (P := P) none hl3
        rw [hrec] at hr
        refine ⟨_, _, hr, rfl, hIp _ _ _ _ _ hi3 (by omega) hl3 rfl, ?_, ?_, hKt (hKt hw2 hkp3) (hKb _ _ _ _ (by omega) hl3 rfl rfl)⟩
        · rw [World.putObj_heap_same (Array.getElem?_eq_some_iff.1 hl3).1, hrec]
          rfl
        · exact (World.putObj_heap_other (by omega)).trans (hk3.same _ _ hk2 rfl)
      | ret => exact hp.elim
      | exit id => exact hp.elim
      | goto t => exact hp.elim
      | panic ch => exact hp.elim
      | outgrown => exact hp.elim
    · rintro e W2 ⟨⟨v, rfl⟩, hS, hl, hk⟩
      exact ⟨none, _, by have := run_endLoop (P := P) hl (by rw [hrec]; simp); rw [hrec] at this; exact this, hdone _ _ (Nat.le_refl _) (hSp _ _ _ _ hS (by omega) hl rfl) ((World.putObj_heap_other (by omega)).trans hk)⟩
end
end Go.Proofs.YtblfingmdipopaaGreat

/- What a round of model.Run's loop keeps; a result's cells; states that lie in memory. Conditions: none beside those that each lemma states. -/
namespace Go.Proofs.YtblfingmdipopaaGreat
set_option linter.unusedSimpArgs false
set_option linter.unusedVariables false
open Go.ChangeShapes Go.WideShapes Go.ChangeAt Go.RowKit
open Go.RowKit (wrap32 wrap64)
set_option maxHeartbeats 8000000
/-- Blocks of cells stay, but for one. -/
structure KpR (gr : Nat) (X Y : World) : Prop where
  os : Y.os = X.os
  tape : Y.tape = X.tape
  output : Y.output = X.output
  size : X.heap.size ≤ Y.heap.size
  block : ∀ k cs t f, k ≠ gr → X.heap[k]? = some (.cells cs t f) → Y.heap[k]? = some (.cells cs t f)
section
variable {gr : Nat} {X Y Z : World}
theorem KpR.refl (gr : Nat) (X : World) : KpR gr X X := ⟨rfl, rfl, rfl, Nat.le_refl _, fun _ _ _ _ _ h => h⟩
theorem KpR.trans (h : KpR gr X Y) (k : KpR gr Y Z) : KpR gr X Z := ⟨k.os.trans h.os, k.tape.trans h.tape, k.output.trans h.output, Nat.le_trans h.size k.size, fun i cs t f hi hx => k.block i cs t f hi (h.block i cs t f hi hx)⟩
theorem KpR.of_kept (h : Kept [gr] X Y) : KpR gr X Y := ⟨h.os, h.tape, h.output, h.size, fun k cs t f hk hx => (h.block k (Array.getElem?_eq_some_iff.1 hx).1 (by simpa using hk)).trans hx⟩
theorem KpR.put (W : World) (l : Nat) (o o' : Obj) (ho : W.heap[l]? = some o) (hc : o.isCells = false) : KpR gr W (W.putObj l o') :=
  ⟨rfl, rfl, rfl, by simp, fun k cs t f _ hx => by
    by_cases h : k = l
    · subst h
      rw [ho] at hx
      injection hx with hx
      subst hx
      cases hc
    · exact (World.putObj_heap_other (fun e => h (by omega))).trans hx⟩
theorem KpR.blk {g : Nat} {t : TypeId} {cs : List Value} (h : KpR gr X Y) (hb : Blk X g t cs) (hg : g ≠ gr) : Blk Y g t cs := h.block g _ t _ hg hb
theorem KpR.own {base : Nat} {e : TypeId} {size n : Nat} {v : Value} {xs : List Value} (k : KpR gr X Y) (h : X.ownsRow base e size v n xs) (hv : v.ownBlock ≠ some gr) : Y.ownsRow base e size v n xs := by
  obtain ⟨h1, h2⟩ := h
  refine ⟨h1, ?_⟩
  rcases h2 with h2 | ⟨g, cap, cur, rfl, hb, hg, hn, hc, hs, ht⟩
  · exact .inl h2
  · exact .inr ⟨g, cap, cur, rfl, hb, k.block _ _ _ _ (fun e => hv (by simp [Value.ownBlock, e])) hg, hn, hc, hs, ht⟩
end
theorem Kept.put {L : List Nat} {W0 W : World} (h : Kept L W0 W) (l : Nat) (o' : Obj) (hl : W0.heap.size ≤ l) : Kept L W0 (W.putObj l o') :=
  ⟨h.os, h.tape, h.output, by have := h.size; simpa using this, fun k hk hn => (World.putObj_heap_other (by omega)).trans (h.block k hk hn)⟩
theorem Blk.put {W : World} {g : Nat} {t : TypeId} {cs : List Value} (h : Blk W g t cs) {l : Nat} {o : Obj} (o' : Obj) (ho : W.heap[l]? = some o) (hc : o.isCells = false) : Blk (W.putObj l o') g t cs :=
  (World.putObj_heap_other (fun e => by
    subst e
    have h1 := h.symm.trans ho
    injection h1 with h1
    subst h1
    cases hc)).trans h
/-- A state's slices. -/
structure StX where
  Aa : Option Addr
  ca : Nat
  Ab : Option Addr
  cb : Nat
  Ao : Option Addr
  co : Nat
abbrev StX.cells (n : Nat) (x : StX) : List Value := stS n x.Aa x.Ab x.Ao x.ca x.cb x.co
abbrev encS (n : Nat) (x : StX) : Array Value := #[.agg (x.cells n).toArray]
/-- A result's cells. -/
abbrev noSt : List Value := [.int .i64 0, .int .i64 0, .slice none 0 0, .slice none 0 0, .slice none 0 0]
def lastC (n : Nat) : Option StX → List Value
  | none => noSt
  | some x => x.cells n
def rsC (n : Nat) (st rounds : Int) (o : Option StX) : List Value := .int .i64 st :: .int .i64 rounds :: lastC n o
theorem rsC_len (n : Nat) (st rounds : Int) (o : Option StX) : (rsC n st rounds o).length = 7 := by cases o <;> rfl
theorem infoResult : (Tryz.prog.info? 63).map (·.size) = some 7 := by kernel_rfl
/-- A state that lies there, by its slices. -/
abbrev StX.at (n base : Nat) (x : StX) (s : StV) (W : World) : Prop := StAt W base (.slice x.Aa n x.ca) (.slice x.Ab n x.cb) (.slice x.Ao (wordsN n) x.co) n s.A s.B s.b
theorem StAt.kpR {W W' : World} {base n b gr : Nat} {vA vB vO : Value} {A B : List Int} {cs : List Value} (h : StAt W base vA vB vO n A B b) (k : KpR gr W W') (hg : Blk W gr 63 cs) : StAt W' base vA vB vO n A B b :=
  ⟨k.own h.o1 (own_ne_blk h.o1 hg (by decide)), k.own h.o2 (own_ne_blk h.o2 hg (by decide)), k.own h.o3 (own_ne_blk h.o3 hg (by decide))⟩
theorem MtAt.kpR {W W' : World} {base n gr : Nat} {v1 v2 v3 : Value} {l : List Ed} {cs : List Value} (h : MtAt W base v1 v2 v3 n l) (k : KpR gr W W') (hg : Blk W gr 63 cs) : MtAt W' base v1 v2 v3 n l :=
  ⟨k.own h.o1 (own_ne_blk h.o1 hg (by decide)), k.own h.o2 (own_ne_blk h.o2 hg (by decide)), k.own h.o3 (own_ne_blk h.o3 hg (by decide))⟩
/-- The caller's invariant: what came last lies in the result; nothing else that was there has changed. -/
def RunI (gr n : Nat) (w : World) (pre : List StX) (W : World) : Prop := Blk W gr 63 (rsC n 0 (wrap64 ((pre.length : Int) - 1)) pre.getLast?) ∧ Kept [gr] w W
/-- What is so behind the loop: the run has ended behind T rounds. -/
def RunS (gr n T : Nat) (s : StV) (w W : World) : Prop := ∃ x : StX, Blk W gr 63 (rsC n 1 T (some x)) ∧ x.at n w.heap.size s W ∧ Kept [gr] w W
theorem StAt.put {W : World} {base n b : Nat} {vA vB vO : Value} {A B : List Int} (h : StAt W base vA vB vO n A B b) {l : Nat} {o : Obj} (o' : Obj) (ho : W.heap[l]? = some o) (hc : o.isCells = false) : StAt (W.putObj l o') base vA vB vO n A B b :=
  ⟨ownsRow_putObj h.o1 o' ho hc, ownsRow_putObj h.o2 o' ho hc, ownsRow_putObj h.o3 o' ho hc⟩
theorem RunI.alloc {gr n : Nat} {w W : World} {pre : List StX} (o : Obj) (h : RunI gr n w pre W) : RunI gr n w pre (W.alloc o) := ⟨h.1.alloc o, h.2.alloc o⟩
theorem RunI.put {gr n : Nat} {w W : World} {pre : List StX} {l : Nat} {o o' : Obj} (h : RunI gr n w pre W) (hl : w.heap.size ≤ l) (ho : W.heap[l]? = some o) (hc : o.isCells = false) : RunI gr n w pre (W.putObj l o') := ⟨h.1.put o' ho hc, h.2.put l o' hl⟩
theorem RunS.put {gr n T : Nat} {s : StV} {w W : World} {l : Nat} {o o' : Obj} (h : RunS gr n T s w W) (hl : w.heap.size ≤ l) (ho : W.heap[l]? = some o) (hc : o.isCells = false) : RunS gr n T s w (W.putObj l o') := by
  obtain ⟨x, h1, h2, h3⟩ := h
  exact ⟨x, h1.put o' ho hc, h2.put o' ho hc, h3.put l o' hl⟩
section
variable {F : Fence} {n : Nat} {P : Program} {ops : Array Oper} {rest : List Oper} {o : Oper} {a : Act} {w : World} {Q : Exit → Act → World → Prop}
/-- The last cells of a block stored as one struct, inside a fence. -/
theorem inStoreEnd (hg : o.guard = none) (ty t : TypeId) (x y : Operand) (ho : o.op = .store ty x y) (g k : Nat) (cs news : List Value) (hb : Blk w g t cs) (hl : k + news.length = cs.length) (hx : a.eval x = .pointer (some ⟨g, k, none⟩)) (hy : a.eval y = .agg news.toArray)
    (hi : (P.info? ty).map (·.size) = some news.length) (h1 : news.toArray.all (·.oneCell') = true) (h : ∀ w', Blk w' g t (cs.take k ++ news) → Kept [g] w w' → wpListIn F n P ops Q rest (a.put o.dst undef) w') : wpListIn F n P ops Q (o :: rest) a w := by
  refine wpListIn_plain hg fun K hK => ?_
  have h2 := Blk.setCells news w k cs hl hb
  have ht : w.there g k news.toArray.size := fun j hj => by
    rw [hb.cell, hb.frozen]
    exact ⟨by rw [List.getElem?_eq_getElem (by simp at hj; omega)]; rfl, rfl⟩
  unfold Oper.wpIn
  refine ⟨?_, ?_⟩
  · simp [Oper.about, ho]
  · rw [Oper.semAt_plain F _ _ (by rw [ho]; intro c hc; cases hc)]
    unfold execOp
    simp only [ho, hx, hy, Instr.storeAt, Instr.sureAddr, Sem.run_bind, Sem.run_pure, Result.andThen_ok, run_storeVar_mid w g k ty news.toArray ht (by simpa using hi) h1]
    exact hK _ _ (h _ h2.1 h2.2)
end
end Go.Proofs.YtblfingmdipopaaGreat
