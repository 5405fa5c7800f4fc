/- Small lemmas that all texts of this seat use: strings as lists of bytes, endings, worlds. No program in sight. -/
import Derived.WalkKit
import Derived.WalkLawsBesides
import Derived.WalkSpells
import Derived.Deep.QuietTactic
import Derived.BigQuiet
import Derived.StillTailTactics
import Derived.Lib.Hide
namespace Go.Proofs.Ytkahceijhokmoaa
open Go.RowKit
set_option linter.unusedVariables false
set_option linter.unusedSimpArgs false

/-- a string of these bytes -/
def bstr (l : List UInt8) : ByteArray := ⟨l.toArray⟩
theorem bstr_data (l : List UInt8) : (bstr l).data.toList = l := rfl
@[go_sem] theorem bstr_toList (l : List UInt8) : (bstr l).toList = l := by
  rw [ByteArray.toList_eq]; rfl
@[go_sem] theorem bstr_size (l : List UInt8) : (bstr l).size = l.length := by simp [bstr, ByteArray.size]
theorem eq_bstr (s : ByteArray) : s = bstr s.data.toList := by cases s; rfl
theorem strOfNums_eq (xs : List Int) : strOfNums xs = bstr (xs.map fun n => UInt8.ofNat n.toNat) := rfl

theorem ret_int {k : IntKind} {a b : Int} (h : a = b) : Ending.returned (.int k a) = .returned (.int k b) := by rw [h]
theorem ret_bool {a b : Bool} (h : a = b) : Ending.returned (.bool a) = .returned (.bool b) := by rw [h]
theorem ret_str {a b : ByteArray} (h : a = b) : Ending.returned (.string a) = .returned (.string b) := by rw [h]
theorem ret_tup1 {a b x : Value} (h : a = b) : Ending.returned (.tuple #[a, x]) = .returned (.tuple #[b, x]) := by rw [h]
theorem ret_tup {a b x y : Value} (h : a = b) (h' : x = y) : Ending.returned (.tuple #[a, x]) = .returned (.tuple #[b, y]) := by rw [h, h']
theorem val_int {k : IntKind} {a b : Int} (h : a = b) : Value.int k a = .int k b := by rw [h]
theorem val_str {a b : ByteArray} (h : a = b) : Value.string a = .string b := by rw [h]

theorem bdrewN {B : Nat} {a w : World} (h : Below B a w) (n : Nat) : Below B a (w.drewN n) := ⟨h.os, h.tape, h.output, h.size, h.block⟩
@[go_sem] theorem bstr_append (a b : List UInt8) : bstr a ++ bstr b = bstr (a ++ b) := by
  rw [eq_bstr (bstr a ++ bstr b)]
  congr 1
theorem append_data (a b : ByteArray) : (a ++ b).data.toList = a.data.toList ++ b.data.toList := by
  simp [ByteArray.data_append]
theorem data_length (s : ByteArray) : s.data.toList.length = s.size := by rw [Array.length_toList]; rfl

/-- one of n that a number stands for -/
def pickI (a n : Int) : Int := a % 18446744073709551616 % n
def pickN (a : Int) (n : Nat) : Nat := (pickI a n).toNat
theorem pickI_nn (a n : Int) (h : 1 ≤ n) : 0 ≤ pickI a n := by unfold pickI; exact Int.emod_nonneg _ (by omega)
theorem pickI_lt (a n : Int) (h : 1 ≤ n) : pickI a n < n := by unfold pickI; exact Int.emod_lt_of_pos _ (by omega)
theorem pickN_cast (a : Int) (n : Nat) (h : 1 ≤ n) : ((pickN a n : Nat) : Int) = pickI a n := by
  unfold pickN; have := pickI_nn a n (by omega); omega
theorem pickN_lt (a : Int) (n : Nat) (h : 1 ≤ n) : pickN a n < n := by
  have := pickI_lt a n (by omega); have := pickN_cast a n h; omega
/-- a contract that leaves the world alone, in the form that regions ask -/
theorem turn {P : Program} {f : FuncId} {args : Array Value} {w : World} {v : Value} (h : Calls P f args w fun e w' => e = .returned v ∧ w = w') :
    Calls P f args w fun e w' => e = .returned v ∧ w' = w := h.mono fun _ _ h => ⟨h.1, h.2.symm⟩
/-- a slice of integers that came in: nil, or a row of cells -/
def IsInts (k : IntKind) (w : World) (a : Option Addr) (len cap : Nat) (zs : List Int) : Prop :=
  (a = none ∧ len = 0 ∧ cap = 0 ∧ zs = []) ∨
  ∃ x, a = some x ∧ len ≤ cap ∧ cap ≤ maxLen ∧ zs.length = cap ∧ (∀ i, i < zs.length → w.cell? (x.add i) = some (.int k (zs.getD i 0))) ∧ (∀ n ∈ zs, (Lit.int k n).wf = true) ∧ cap ≤ 140737488351232
/-- a slice of strings that came in -/
def IsStrs (w : World) (a : Option Addr) (len cap : Nat) (ss : List ByteArray) : Prop :=
  (a = none ∧ len = 0 ∧ cap = 0 ∧ ss = []) ∨
  ∃ x, a = some x ∧ len ≤ cap ∧ cap ≤ maxLen ∧ ss.length = cap ∧ (∀ i, i < ss.length → w.cell? (x.add i) = some (.string (ss.getD i ByteArray.empty))) ∧ (∀ s ∈ ss, s.size ≤ maxLen) ∧ cap ≤ 140737488351232
theorem Addr.add_block (x : Addr) (i : Nat) : (x.add i).block = x.block := by unfold Addr.add; split <;> rfl
theorem IsInts.cell {k : IntKind} {w : World} {a : Option Addr} {len cap : Nat} {zs : List Int} (h : IsInts k w a len cap zs) (i : Nat) (hi : i < len) : ∃ x : Addr, a = some x ∧ x.block < w.heap.size ∧ w.cell? (x.add i) = some (.int k (zs.getD i 0)) := by
  rcases h with ⟨_, h, _⟩ | ⟨x, h1, h2, h3, h4, h5, h6, h7⟩
  · omega
  · have hc := h5 i (by omega)
    have := World.block_lt_of_cell? w _ hc
    rw [Addr.add_block] at this
    exact ⟨x, h1, this, hc⟩
theorem IsStrs.cell {w : World} {a : Option Addr} {len cap : Nat} {ss : List ByteArray} (h : IsStrs w a len cap ss) (i : Nat) (hi : i < len) : ∃ x : Addr, a = some x ∧ x.block < w.heap.size ∧ w.cell? (x.add i) = some (.string (ss.getD i ByteArray.empty)) ∧ (ss.getD i ByteArray.empty).size ≤ maxLen := by
  rcases h with ⟨_, h, _⟩ | ⟨x, h1, h2, h3, h4, h5, h6, h7⟩
  · omega
  · have hc := h5 i (by omega)
    have := World.block_lt_of_cell? w _ hc
    rw [Addr.add_block] at this
    refine ⟨x, h1, this, hc, h6 _ ?_⟩
    rw [List.getD_eq_getElem?_getD, List.getElem?_eq_getElem (by omega)]
    exact List.getElem_mem _
theorem IsInts.below {k : IntKind} {w w' : World} {a : Option Addr} {len cap : Nat} {zs : List Int} (h : IsInts k w a len cap zs) {B : Nat} (hb : Below B w w') (hB : w.heap.size ≤ B) : IsInts k w' a len cap zs := by
  rcases h with h | ⟨x, h1, h2, h3, h4, h5, h6, h7⟩
  · exact .inl h
  · refine .inr ⟨x, h1, h2, h3, h4, fun i hi => ?_, h6, h7⟩
    have hlt := World.block_lt_of_cell? w _ (h5 i hi)
    rw [World.cell?_of_block (w := w) (w' := w') (a := x.add i)]
    · exact h5 i hi
    · exact hb.block _ (Nat.lt_of_lt_of_le hlt hB)
theorem IsStrs.below {w w' : World} {a : Option Addr} {len cap : Nat} {ss : List ByteArray} (h : IsStrs w a len cap ss) {B : Nat} (hb : Below B w w') (hB : w.heap.size ≤ B) : IsStrs w' a len cap ss := by
  rcases h with h | ⟨x, h1, h2, h3, h4, h5, h6, h7⟩
  · exact .inl h
  · refine .inr ⟨x, h1, h2, h3, h4, fun i hi => ?_, h6, h7⟩
    have hlt := World.block_lt_of_cell? w _ (h5 i hi)
    rw [World.cell?_of_block (w := w) (w' := w') (a := x.add i)]
    · exact h5 i hi
    · exact hb.block _ (Nat.lt_of_lt_of_le hlt hB)
theorem IsInts.len {k : IntKind} {w : World} {a : Option Addr} {len cap : Nat} {zs : List Int} (h : IsInts k w a len cap zs) : len ≤ cap ∧ zs.length = cap ∧ cap ≤ 140737488351232 := by
  rcases h with ⟨_, h, h2, h3⟩ | ⟨x, h1, h2, h3, h4, h5, h6, h7⟩
  · subst h h2 h3; exact ⟨Nat.le_refl _, rfl, by decide⟩
  · exact ⟨h2, h4, h7⟩
theorem IsStrs.len {w : World} {a : Option Addr} {len cap : Nat} {ss : List ByteArray} (h : IsStrs w a len cap ss) : len ≤ cap ∧ ss.length = cap ∧ cap ≤ 140737488351232 := by
  rcases h with ⟨_, h, h2, h3⟩ | ⟨x, h1, h2, h3, h4, h5, h6, h7⟩
  · subst h h2 h3; exact ⟨Nat.le_refl _, rfl, by decide⟩
  · exact ⟨h2, h4, h7⟩
end Go.Proofs.Ytkahceijhokmoaa
