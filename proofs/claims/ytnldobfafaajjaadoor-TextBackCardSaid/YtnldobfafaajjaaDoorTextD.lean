/- text.Wide: the closure that puts. -/
import Derived.Test.YtnldobfafaajjaaDoorTextC
import Derived.Test.YtnldobfafaajjaaDoorPlainText2
import Derived.RangeFuncBox
import Derived.RangeFuncNested
namespace Go.Proofs.YtnldobfafaajjaaDoor
open Go.RowKit Go.Shelf
set_option linter.unusedVariables false
set_option linter.unusedSimpArgs false
attribute [local go_sem] Oper.semAt_some
/-- what put leaves -/
def PutOut (o n K B m : Nat) (bs : List UInt8) (w : World) (e : Ending) (w' : World) : Prop :=
  e = .returned (.tuple #[]) ∧ ∃ a' c', Boxed w' K 71 (.slice a' (m + 2) c') ∧ Owns w' B 5 1 a' (m + 2) c' (bvals (bs ++ Txt.unit o n)) ∧ Below K w w'
theorem unit_cells1 (n : Nat) (hn : n < 65536) (bs : List UInt8) : bvals (bs ++ Txt.unit 1 n) = bvals bs ++ [.int .u8 ((n : Int) / 256), .int .u8 ((n : Int) % 256)] := by
  have h1 := Txt.toNat_small (n / 256) (by omega)
  have h2 := Txt.toNat_small (n % 256) (by omega)
  rw [← bvals_app]
  simp [bvals, bval, Txt.unit, h1, h2]
theorem unit_cells0 (n : Nat) (hn : n < 65536) (bs : List UInt8) : bvals (bs ++ Txt.unit 0 n) = bvals bs ++ [.int .u8 ((n : Int) % 256), .int .u8 ((n : Int) / 256)] := by
  have h1 := Txt.toNat_small (n / 256) (by omega)
  have h2 := Txt.toNat_small (n % 256) (by omega)
  rw [← bvals_app]
  simp [bvals, bval, Txt.unit, h1, h2]
theorem Owns.lt' {w : World} {B : Nat} {e : TypeId} {size : Nat} {a : Option Addr} {n cap : Nat} {xs : List Value} (h : Owns w B e size a n cap xs) : ∀ x, a = some x → B ≤ x.block := fun x hx => by subst hx; exact h.lt.1
set_option maxRecDepth 100000 in
set_option maxHeartbeats 2000000 in
theorem put_one (n : Nat) (hn : n < 65536) (g K B : Nat) (a : Option Addr) (m c : Nat) (bs : List UInt8) (w : World) (hg : w.cell? ⟨g, 0, none⟩ = some (.int .i64 1)) (hK : Boxed w K 71 (.slice a m c)) (ho : Owns w B 5 1 a m c (bvals bs)) (hKB : K < B) (hB : B ≤ w.heap.size) (hm : m ≤ 1000000) :
    Calls Tryd.prog 41 #[.int .i64 n, .pointer (some ⟨g, 0, none⟩), .pointer (some ⟨K, 0, none⟩)] w (PutOut 1 n K B m bs w) := by
  have hc := hK.cell
  have hf := hK.frozen
  have hneK : some K ≠ blk a := by
    intro e
    cases a with
    | none => cases e
    | some x => have := ho.lt.1; have e2 : K = x.block := Option.some.inj e; omega
  have hml : m + 2 ≤ maxLen := by unfold maxLen; omega
  have hby : (m + 2) * 1 ≤ 140737488355328 := by omega
  go_enter Tryd.func41, Tryd.ntmps41
  go_wp2_with (with_reducible refine wpList_pushN _ rfl _ _ 71 rfl B 5 (.int .u8 0) 1 1 Tryd.underlying71 infoTu rfl (by decide) a m c _ rfl ho 2 (by decide) [.int .u8 ((n : Int) / 256), .int .u8 ((n : Int) % 256)] rfl (by simp [Value.oneCell']) rfl hml hby hB ?_; intro a' c' w1 hown1 hgrow1 hloc1 hsz1 hex1; have hK1 := hK.kept hgrow1 hneK; have hc1 := hK1.cell; have hf1 := hK1.frozen)
  go_end0
  refine ⟨rfl, a', c', hK1.set _, ?_, ?_⟩
  · rw [unit_cells1 n hn]
    exact hown1.far (fun x hx => by have := hown1.lt' x hx; show x.block ≠ K; omega) _
  · exact (below_blk (Below.refl K w) ho (Nat.le_of_lt hKB) (by omega) hgrow1).setCell (p := ⟨K, 0, none⟩) (Nat.le_refl _) _
set_option maxRecDepth 100000 in
set_option maxHeartbeats 2000000 in
theorem put_zero (n : Nat) (hn : n < 65536) (g K B : Nat) (a : Option Addr) (m c : Nat) (bs : List UInt8) (w : World) (hg : w.cell? ⟨g, 0, none⟩ = some (.int .i64 0)) (hK : Boxed w K 71 (.slice a m c)) (ho : Owns w B 5 1 a m c (bvals bs)) (hKB : K < B) (hB : B ≤ w.heap.size) (hm : m ≤ 1000000) :
    Calls Tryd.prog 41 #[.int .i64 n, .pointer (some ⟨g, 0, none⟩), .pointer (some ⟨K, 0, none⟩)] w (PutOut 0 n K B m bs w) := by
  have hc := hK.cell
  have hf := hK.frozen
  have hneK : some K ≠ blk a := by
    intro e
    cases a with
    | none => cases e
    | some x => have := ho.lt.1; have e2 : K = x.block := Option.some.inj e; omega
  have hml : m + 2 ≤ maxLen := by unfold maxLen; omega
  have hby : (m + 2) * 1 ≤ 140737488355328 := by omega
  go_enter Tryd.func41, Tryd.ntmps41
  go_wp2_with (with_reducible refine wpList_pushN _ rfl _ _ 71 rfl B 5 (.int .u8 0) 1 1 Tryd.underlying71 infoTu rfl (by decide) a m c _ rfl ho 2 (by decide) [.int .u8 ((n : Int) % 256), .int .u8 ((n : Int) / 256)] rfl (by simp [Value.oneCell']) rfl hml hby hB ?_; intro a' c' w1 hown1 hgrow1 hloc1 hsz1 hex1; have hK1 := hK.kept hgrow1 hneK; have hc1 := hK1.cell; have hf1 := hK1.frozen)
  go_end0
  refine ⟨rfl, a', c', hK1.set _, ?_, ?_⟩
  · rw [unit_cells0 n hn]
    exact hown1.far (fun x hx => by have := hown1.lt' x hx; show x.block ≠ K; omega) _
  · exact (below_blk (Below.refl K w) ho (Nat.le_of_lt hKB) (by omega) hgrow1).setCell (p := ⟨K, 0, none⟩) (Nat.le_refl _) _
end Go.Proofs.YtnldobfafaajjaaDoor
