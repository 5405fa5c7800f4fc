/- A loop over an iterator that keeps its place in a cell of its own: block Bs is the iterator's; what the loop holds abides its stores. -/
import Derived.RangeFuncWrites
namespace Go.Proofs.YtnmbakibiaedhaaDoor
open Go.RowKit
set_option linter.unusedVariables false
set_option linter.unusedSimpArgs false
variable {F : Fence} {n : Nat} {P : Program}
/-- what is held abides a store into block Bs, and new blocks -/
def Bides {β : Type} (Bs : Nat) (J : β → World → Prop) : Prop := ∀ s W W' row, J s W → W.grownBy W' row → (∀ r, row = some r → r = Bs) → J s W'
/-- the iterator's word: it yields a part of ys, in order; between two rounds it stores into block Bs; the body keeps Kp -/
def Steps {α : Type} (F : Fence) (n : Nat) (P : Program) (g : Nat) (lb : Array Value) (encs : α → Array Value) (Kp : World → World → Prop) (ys : List α) (Bs : Nat) (w : World) : Prop :=
  ∀ (l : Nat) (J Jx : List α → World → Prop) (W : World), Below w.heap.size w W → Bides Bs J → Bides Bs Jx →
    (∀ pre x W1, J pre W1 → pre ++ [x] <+: ys → YieldAt F (n - 1) P l (encs x) W1 fun e W' => (e = .returned (.bool true) ∧ J (pre ++ [x]) W' ∧ Kp W1 W') ∨ (e = .returned (.bool false) ∧ Jx (pre ++ [x]) W')) →
    J [] W →
    CallsIn F n P g (#[.func (.yield l) #[] #[]] ++ lb) W fun e W' => (∃ v, e = .returned v) ∧ (J ys W' ∨ ∃ pre, Jx pre W')
/-- the two blocks that the loop lays: the rounds' deferred calls at b, the loop's record at b + 1 -/
def Booked (b : Nat) (r : Loop) (W : World) : Prop := W.heap[b + 1]? = some (.loop r) ∧ W.heap[b]? = some (.deferred (some []))
theorem Booked.put {b : Nat} {r r' : Loop} {W : World} (h : Booked b r W) : Booked b r' (W.putObj (b + 1) (.loop r')) :=
  ⟨World.putObj_heap_same (Array.getElem?_eq_some_iff.1 h.1).1, (World.putObj_heap_other (by omega)).trans h.2⟩
theorem Booked.bides {b : Nat} {r : Loop} {W W' : World} {Bs : Nat} {row : Option Nat} (h : Booked b r W) (hB : Bs < b) (hg : W.grownBy W' row) (hr : ∀ k, row = some k → k = Bs) : Booked b r W' :=
  ⟨(hg.block (b + 1) (Array.getElem?_eq_some_iff.1 h.1).1 (fun e => by have := hr _ e.symm; omega)).trans h.1, (hg.block b (Array.getElem?_eq_some_iff.1 h.2).1 (fun e => by have := hr _ e.symm; omega)).trans h.2⟩
theorem Booked.keeps {b : Nat} {r : Loop} {W W' : World} (h : Booked b r W) (hk : KeepsFrom b W W') : Booked b r W' := ⟨hk.same _ _ (by omega) h.1 rfl, hk.same _ _ (Nat.le_refl _) h.2 rfl⟩
/-- THE LOOP: the body goes on or returns. -/
theorem range_cell {α : Type} {g : Operand} {ps : Array Tmp} {assign body : Code} {Q : Exit → Act → World → Prop} {a : Act} {w : World}
    (hro : F.round = none) (h1 : 1 ≤ n) {gf : Nat} {lb : Array Value} (hg : a.eval g = .func (.func gf) #[] lb) (hFg : F.fn gf) (eg : ∀ args w, (callFunc gf args).run P w = .ok (.enter gf args) w)
    {encs : α → Array Value} {Kp : World → World → Prop} {ys : List α} {Bs : Nat} {w0 : World} (hseq : Steps F (n - 1) P gf lb encs Kp ys Bs w0) (hBs : Bs < w.heap.size)
    (hKt : ∀ {A B C : World}, Kp A B → Kp B C → Kp A C) (hKb : ∀ (W : World) (l : Nat) (o : Obj), w.heap.size ≤ l → Kp W (W.putObj l o))
    (hb0 : Below w0.heap.size w0 w) (hps : ∀ x, (encs x).size = ps.size)
    (I Ix : List α → World → Prop) (hI : OwnFrom w.heap.size I) (hIx : OwnFrom w.heap.size Ix) (hIB : Bides Bs I) (hIxB : Bides Bs Ix) (h0 : I [] w) (a₁ : α → Act)
    (hassign : ∀ (l : Nat) (x : α) (W : World) (K : Act → World → Prop), K (a₁ x) W →
      assign.wpIn (F.inRound l) (n - 1 - 1) P (Exit.then K (fun _ _ _ => False)) { tmps := (ps.zip (encs x)).foldl (fun t (p, v) => t.setIfInBounds p v) a.tmps, defers := [] } W)
    (hbody : ∀ (l : Nat) (pre : List α) (x : α) (W : World), I pre W → pre ++ [x] <+: ys → body.wpIn (F.inRound l) (n - 1 - 1) P (fun e _ W' => KeepsFrom w.heap.size W W' ∧ match e with | .normal => Kp W W' ∧ I (pre ++ [x]) W' | .ret => Ix (pre ++ [x]) W' | _ => False) (a₁ x) W)
    (hdone : ∀ (D : Nat) (W : World), w.heap.size ≤ D → I ys W → W.heap[D]? = some (.deferred (some [])) → Q .normal { a with defers := { target := .collected D, args := #[] } :: a.defers } W)
    (hstop : ∀ (D : Nat) (pre : List α) (W : World), w.heap.size ≤ D → Ix pre W → W.heap[D]? = some (.deferred (some [])) → (Code.ret).wpIn F n P Q { a with defers := { target := .collected D, args := #[] } :: a.defers } W) :
    (Code.rangeFunc g ps assign body).wpIn F n P Q a w := by
  refine wpIn_rangeFunc fun fn hfn => ?_
  rw [hro]
  let R : LoopState → Option Code → Loop := fun st pe => { state := st, pending := pe, fn, tmps := a.tmps, params := ps, assign, body, defers := w.heap.size }
  let W1 := (w.alloc (.deferred (some []))).alloc (.loop (R .ready none))
  have hB1 : Booked w.heap.size (R .ready none) W1 := by
    refine ⟨?_, (Below.heap_alloc _ _ _ (by simp)).trans (World.alloc_heap_new w _)⟩
    have := World.alloc_heap_new (w.alloc (.deferred (some []))) (.loop (R .ready none))
    rwa [World.size_alloc] at this
  refine ⟨w.heap.size + 1, [{ target := .collected w.heap.size, args := #[] }], W1, { target := .fn (.func gf) lb, args := #[.func (.yield (w.heap.size + 1)) #[] #[]] }, W1, gf, #[.func (.yield (w.heap.size + 1)) #[] #[]] ++ lb, W1, run_enterLoop_outer _ _ _ _ _, ?_, ?_, ?_, fun _ => h1, ?_⟩
  · simp only [resolve, hg]
    simp [go_sem]
  · intro f' hf'
    simp [Target.leads] at hf'
    subst hf'
    exact hFg
  · simp [invoke, go_sem, eg]
  have hW1 : Below w0.heap.size w0 W1 := hb0.trans ((((Below.refl _ w).alloc (Nat.le_refl _) _).alloc (by simp) _).mono hb0.size)
  refine (hseq (w.heap.size + 1) (fun pre W => I pre W ∧ Booked w.heap.size (R .ready none) W) (fun pre W => Ix pre W ∧ Booked w.heap.size (R .done (some .ret)) W) W1 hW1
    (fun s A B row hs hg' hr => ⟨hIB s A B row hs.1 hg' hr, hs.2.bides hBs hg' hr⟩) (fun s A B row hs hg' hr => ⟨hIxB s A B row hs.1 hg' hr, hs.2.bides hBs hg' hr⟩) ?_ ⟨hI.alloc _ (hI.alloc _ h0), hB1⟩).mono ?_
  · rintro pre x W ⟨hi, hk⟩ hpre
    have hy := run_yield (P := P) (args := encs x) hk.1 (hps x)
    refine ⟨fn, _, assign, body, hy, roundIn_of_wpIn hfn (hassign _ x W _ ⟨_, run_beginRound hk.1 rfl, ?_⟩)⟩
    have hk2 := hk.put (r' := { R .ready none with state := .busy })
    refine wpIn_mono (hbody _ pre x _ (hI.putObj _ hi (by omega) hk.1 rfl) hpre) ?_
    rintro e a3 W3 ⟨hk3, hp⟩
    have hk4 := hk2.keeps hk3
    cases e with
    | normal =>
      have hr := run_endRound (P := P) none hk4.1
      exact ⟨_, _, hr, .inl ⟨rfl, ⟨hI.putObj _ hp.2 (by omega) hk4.1 rfl, hk4.put⟩, hKt (hKt (hKb _ _ _ (by omega)) hp.1) (hKb _ _ _ (by omega))⟩⟩
    | ret =>
      have hr := run_endRound (P := P) (some .ret) hk4.1
      exact ⟨_, _, hr, .inr ⟨rfl, hIx.putObj _ hp (by omega) hk4.1 rfl, hk4.put⟩⟩
    | exit id => exact hp.elim
    | goto t => exact hp.elim
    | panic ch => exact hp.elim
    | outgrown => exact hp.elim
  · rintro e W2 ⟨⟨v, rfl⟩, ⟨hi, hk⟩ | ⟨pre, hi, hk⟩⟩
    · have hr := run_endLoop (P := P) hk.1 (by simp [R])
      exact ⟨none, _, hr, hdone _ _ (Nat.le_refl _) (hI.putObj _ hi (by omega) hk.1 rfl) ((World.putObj_heap_other (by omega)).trans hk.2)⟩
    · have hr := run_endLoop (P := P) hk.1 (by simp [R])
      exact ⟨some .ret, _, hr, hstop _ pre _ (Nat.le_refl _) (hIx.putObj _ hi (by omega) hk.1 rfl) ((World.putObj_heap_other (by omega)).trans hk.2)⟩
end Go.Proofs.YtnmbakibiaedhaaDoor
