/- Matches: their cells, their order; the sort's closure. -/
import Derived.Test.YtkahceijhokmoaaChecked
import Derived.Test.YtkahceijhokmoaaOwn
import Derived.Shelf.SlSortCmp.InsertionK
import Derived.Test.YtkahceijhokmoaaPushAt
namespace Go.Proofs.Ytkahceijhokmoaa
open Go.RowKit
set_option linter.unusedVariables false
set_option linter.unusedSimpArgs false
/-- a match of small numbers -/
abbrev Mt := Fin 1000 × Fin 1000
def mt (p : Nat × Nat) : Mt := (Fin.ofNat 1000 p.1, Fin.ofNat 1000 p.2)
def mtn (x : Mt) : Nat × Nat := (x.1.val, x.2.val)
def mCell (p : Nat × Nat) : List Value := [.int .i64 (p.1 : Nat), .int .i64 (p.2 : Nat)]
def mCells (l : List (Nat × Nat)) : List Value := l.flatMap mCell
theorem mCells_length (l : List (Nat × Nat)) : (mCells l).length = l.length * 2 := by
  induction l with
  | nil => rfl
  | cons e l ih => simp only [mCells, List.flatMap_cons, List.length_append, List.length_cons] at ih ⊢; rw [ih]; simp [mCell]; omega
theorem mCells_append (l m : List (Nat × Nat)) : mCells (l ++ m) = mCells l ++ mCells m := by simp [mCells]
theorem mCells_get (l : List (Nat × Nat)) : ∀ j, j < l.length * 2 → (mCells l)[j]? = (mCell (l.getD (j / 2) (0, 0)))[j % 2]? := by
  induction l with
  | nil => intro j h; simp at h
  | cons x l ih =>
    intro j h
    rcases j with _ | _ | j
    · rfl
    · rfl
    · have e1 : (j + 2) / 2 = j / 2 + 1 := by omega
      have e2 : (j + 2) % 2 = j % 2 := by omega
      rw [e1, e2]
      exact ih j (by simp at h; omega)
theorem mtn_mt {p : Nat × Nat} (h : p.1 < 1000 ∧ p.2 < 1000) : mtn (mt p) = p := by
  unfold mtn mt
  simp only [Fin.ofNat]
  rw [Nat.mod_eq_of_lt h.1, Nat.mod_eq_of_lt h.2]
theorem map_mt : ∀ {l : List (Nat × Nat)}, (∀ p ∈ l, p.1 < 1000 ∧ p.2 < 1000) → (l.map mt).map mtn = l
  | [], _ => rfl
  | p :: l, h => by
    rw [List.map_cons, List.map_cons, mtn_mt (h p (by simp)), map_mt fun q hq => h q (by simp [hq])]
/-- the order of the sort -/
def cmpM (x y : Mt) : Int := if (x.1.val : Int) = (y.1.val : Int) then (x.2.val : Int) - (y.2.val : Int) else (x.1.val : Int) - (y.1.val : Int)
theorem ltM (x y : Mt) : ltOf cmpM x y = decide (x.1.val < y.1.val ∨ (x.1.val = y.1.val ∧ x.2.val < y.2.val)) := by
  unfold ltOf cmpM
  by_cases h1 : (x.1.val : Int) = (y.1.val : Int)
  · rw [if_pos h1, decide_eq_decide]; omega
  · rw [if_neg h1, decide_eq_decide]; omega
theorem swoM : Go.Sort.SWO (ltOf cmpM) where
  irrefl x := by rw [ltM, decide_eq_false_iff_not]; omega
  trans x y z h1 h2 := by rw [ltM] at *; rw [decide_eq_true_eq] at *; omega
  ntrans x y z h1 h2 := by rw [ltM] at *; rw [decide_eq_false_iff_not] at *; omega
set_option maxRecDepth 100000 in
theorem closure_m (x y : Mt) (W : World) : Calls Try.prog 19 #[.agg #[.int .i64 (x.1.val : Nat), .int .i64 (x.2.val : Nat)], .agg #[.int .i64 (y.1.val : Nat), .int .i64 (y.2.val : Nat)]] W fun e w' => e = .returned (.int .i64 (cmpM x y)) ∧ ∃ q os', w' = Go.Sort.grow (W.drewN q) os' := by
  obtain ⟨⟨x1, hx1⟩, ⟨x2, hx2⟩⟩ := x
  obtain ⟨⟨y1, hy1⟩, ⟨y2, hy2⟩⟩ := y
  unfold cmpM
  simp only []
  have hfin : ∀ o1 o2, ∃ q os', (W.alloc o1).alloc o2 = Go.Sort.grow (W.drewN q) os' := fun o1 o2 => ⟨0, _, by rw [Go.Sort.alloc_eq_grow, Go.Sort.alloc_eq_grow, Go.Sort.grow_grow]; rfl⟩
  have HF := Lib.hid hfin; clear hfin
  have z1 : (x1 : Int) < 1000 := by omega
  have z2 : (x2 : Int) < 1000 := by omega
  have z3 : (y1 : Int) < 1000 := by omega
  have z4 : (y2 : Int) < 1000 := by omega
  go_enter Try.func19, Try.ntmps19
  by_cases h1 : (x1 : Int) = (y1 : Int)
  · have d1 : ((x1 : Int) == (y1 : Int)) = true := by rw [beq_iff_eq]; exact h1
    rw [if_pos h1]
    clear h1
    go_wp2_with fail
    go_ret
    exact ⟨rfl, HF.out _ _⟩
  · have d1 : ((x1 : Int) == (y1 : Int)) = false := by rw [beq_eq_false_iff_ne]; exact h1
    rw [if_neg h1]
    clear h1
    go_wp2_with fail
    go_ret
    exact ⟨rfl, HF.out _ _⟩
end Go.Proofs.Ytkahceijhokmoaa
