/- suffix.Sort: the closure that compares two ends. -/
import Derived.Test.YtenhblpegobbjaaSufA
import Derived.Deep.DeepCutAuto
import Derived.Deep.CutBlock
import Derived.Deep.RegionHeld3
namespace Go.Proofs.Ytenhblpegobbjaa
open Go.RowKit
set_option linter.unusedVariables false
set_option linter.unusedSimpArgs false
open Suf
theorem row_new2 (w : World) (g : Nat) (hg : g = w.heap.size) (e : TypeId) (x y : Value) : RowAt (w.alloc (.cells #[x, y] e)) g 0 e [x, y] := RowAt.new' w g hg e #[x, y]
theorem row_set2 {w : World} {g : Nat} {e : TypeId} (a b : Value) (h : RowAt w g 0 e [.int .i64 0, .int .i64 0]) : RowAt ((w.setCell ⟨g, 0, none⟩ a).setCell ⟨g, 1, none⟩ b) g 0 e [a, b] := (h.set0 0 (by simp) a).set0 1 (by simp) b
theorem row_far {w : World} {g g' o : Nat} {e : TypeId} {xs : List Value} (hne : g ≠ g') (u : Value) (h : RowAt w g 0 e xs) : RowAt (w.setCell ⟨g', o, none⟩ u) g 0 e xs := h.far hne u
theorem grew_set {a b : World} {g o : Nat} (hg : a.heap.size ≤ g) (v : Value) (h : Grew a b) : Grew a (b.setCell ⟨g, o, none⟩ v) := h.set ⟨g, o, none⟩ hg v
theorem PS.of {V w1 : World} {fb : Nat} {F : Value} (cf : V.cell? ⟨fb, 0, none⟩ = some F) (hf : fb < V.heap.size) (h : Grew V w1) : w1.cell? ⟨fb, 0, none⟩ = some F ∧ Grew V w1 := by
  refine ⟨?_, h⟩
  unfold World.cell? at cf ⊢
  rw [h.heap fb hf]
  exact cf
set_option maxRecDepth 100000 in
set_option maxHeartbeats 20000000 in
theorem cmp_any (V : World) (kb nb cb rb fb k : Nat) (s : List UInt8) (R : List Nat) (h : KeyAt V kb nb cb rb k s R) (hf : RowAt V fb 0 132 [.func (.func 86) #[] #[.pointer (some ⟨kb, 0, none⟩), .pointer (some ⟨nb, 0, none⟩), .pointer (some ⟨cb, 0, none⟩)]]) (i j : Nat) (hi : i < s.length) (hj : j < s.length) :
    Calls Try.prog 88 #[.int .i64 (i : Nat), .int .i64 (j : Nat), .pointer (some ⟨fb, 0, none⟩)] V fun e w' => e = .returned (.int .i64 (cmpK s k R i j)) ∧ Grew V w' := by
  have cf := hf.cell0 0 (by simp)
  simp only [List.getElem_cons_zero] at cf
  obtain ⟨A, hA⟩ : ∃ A : Nat → Nat, A = fun i => R.getD i 0 := ⟨_, rfl⟩
  obtain ⟨B, hB⟩ : ∃ B : Nat → Nat, B = fun i => key2 s k R i := ⟨_, rfl⟩
  have hAl : ∀ i, A i ≤ 100000 := fun i => by rw [hA]; exact h.small i
  have hBl : ∀ i, B i ≤ 100001 := fun i => by
    rw [hB]
    show key2 s k R i ≤ 100001
    unfold key2
    have := h.small (i + k)
    split <;> omega
  have hcm : cmpK s k R i j = if A i = A j then (B i : Int) - (B j : Int) else (A i : Int) - (A j : Int) := by rw [hA, hB]; rfl
  rw [hcm]
  have HK : Hid (∀ W, Grew V W → ∀ i, i < s.length → Calls Try.prog 86 #[.int .i64 (i : Nat), .pointer (some ⟨kb, 0, none⟩), .pointer (some ⟨nb, 0, none⟩), .pointer (some ⟨cb, 0, none⟩)] W fun e w' => e = .returned (.agg #[.int .i64 (A i : Nat), .int .i64 (B i : Nat)]) ∧ ∃ n, w' = (W.alloc (.cells #[.int .i64 (A i : Nat), .int .i64 (B i : Nat)] 126)).drewN n) := Lib.hid fun W hW i hi => by rw [hA, hB]; exact key_any W kb nb cb rb k s R (h.grew hW) i hi
  have hAi := hAl i; have hAj := hAl j; have hBi := hBl i; have hBj := hBl j
  clear hA hB hcm hAl hBl
  have HG : Hid (Grew V V) := Lib.hid (Grew.refl V)
  have hzp := zeroPair
  have hfl := hf.lt
  go_enter Try.func88, Try.ntmps88
  go_wp2_with fail
  go_upto_region 1 with fail
  go_cut [6, 7] from 8 to 13 (fun v6 v7 wr => ∃ p q, v6 = .pointer (some ⟨p, 0, none⟩) ∧ v7 = .pointer (some ⟨q, 0, none⟩) ∧ Hid (RowAt wr p 0 126 [.int .i64 (A i : Nat), .int .i64 (B i : Nat)] ∧ RowAt wr q 0 126 [.int .i64 (A j : Nat), .int .i64 (B j : Nat)] ∧ Grew V wr))
  case first =>
    go_region_held3 (fun w1 => w1.cell? ⟨fb, 0, none⟩ = some (.func (.func 86) #[] #[.pointer (some ⟨kb, 0, none⟩), .pointer (some ⟨nb, 0, none⟩), .pointer (some ⟨cb, 0, none⟩)]) ∧ Grew V w1)
      (exact PS.of cf hfl (by repeat' (first | with_reducible exact HG.out | with_reducible apply Grew.drewN | with_reducible apply Grew.drew | with_reducible apply Grew.alloc | (with_reducible refine Grew.set ?_ _ (by simp <;> omega) _))))
      (first
        | (go_at_call 86; (with_reducible refine (HK.out _ ?_ i hi).mono ?_); (next => (repeat' (first | with_reducible exact HG.out | with_reducible apply Grew.drewN | with_reducible apply Grew.drew | with_reducible apply Grew.alloc))); (rintro e w9 ⟨rfl, n9, rfl⟩))
        | (go_at_call 86; (with_reducible refine (HK.out _ ?_ j hj).mono ?_); (next => (repeat' (first | with_reducible exact HG.out | with_reducible apply Grew.drewN | with_reducible apply Grew.drew | with_reducible apply Grew.alloc))); (rintro e w9 ⟨rfl, n9, rfl⟩)))
    all_goals
      go_wp2_with fail
      go_meet
      refine ⟨_, _, rfl, rfl, Lib.hid ⟨?_, ?_, ?_⟩⟩
      all_goals (first
        | ((repeat' (first | with_reducible exact HG.out | with_reducible apply Grew.alloc | with_reducible apply Grew.drew | with_reducible apply Grew.drewN | (with_reducible refine grew_set ?_ _ ?_; (focus (first | (simp; done) | omega))))); done)
        | ((repeat' (first
            | with_reducible apply RowAt.drewN
            | with_reducible apply RowAt.drew
            | with_reducible refine row_set2 _ _ ?_
            | (with_reducible refine row_far ?_ _ ?_; (focus (first | (simp; done) | omega)))
            | (with_reducible refine row_new2 _ _ ?_ _ _ _; (first | (rfl; done) | (simp; done)))
            | with_reducible apply RowAt.alloc)); done))
  case rest =>
    obtain ⟨p, q, rfl, rfl, HC⟩ := hcut
    obtain ⟨rp, rq, hgw⟩ := HC.out
    have p0 := rp.cell0 0 (by simp); have p1 := rp.cell0 1 (by simp)
    have q0 := rq.cell0 0 (by simp); have q1 := rq.cell0 1 (by simp)
    simp only [List.getElem_cons_zero, List.getElem_cons_succ] at p0 p1 q0 q1
    have HGW := Lib.hid hgw
    clear rp rq hgw
    by_cases hAB : A i = A j
    · have d1 : ((A i : Int) != (A j : Int)) = false := by rw [bne_eq_false_iff_eq]; omega
      have HAB := Lib.hid hAB
      clear hAB
      go_wp2_with fail
      go_ret
      exact ⟨rfl, HGW.out⟩
    · have d1 : ((A i : Int) != (A j : Int)) = true := by rw [bne_iff_ne]; omega
      have HAB := Lib.hid hAB
      clear hAB
      go_wp2_with fail
      go_ret
      exact ⟨rfl, HGW.out⟩
end Go.Proofs.Ytenhblpegobbjaa
