/- text.Narrow: the closure that reads a pair. -/
import Derived.Test.YtnldobfafaajjaaDoorTextE
import Derived.Deep.DeepCutAuto
import Derived.Deep.CutBlock
import Derived.Deep.RegionHeld3
namespace Go.Proofs.YtnldobfafaajjaaDoor
open Go.RowKit Go.Shelf
set_option linter.unusedVariables false
set_option linter.unusedSimpArgs false
attribute [local go_sem] Oper.semAt_some
theorem or_pair (x y : Nat) (hx : x < 256) (hy : y < 256) : bits .or .i64 ((x : Int) * 256) (y : Int) = ((x * 256 + y : Nat) : Int) := by
  have e := bor64 (x * 256) y (by omega) (by omega)
  have e2 : x * 256 ||| y = x * 256 + y := by rw [Nat.mul_comm]; exact (Nat.two_pow_add_eq_or_of_lt (i := 8) hy x).symm
  have e3 : ((x * 256 : Nat) : Int) = (x : Int) * 256 := Int.natCast_mul x 256
  rw [e2, e3] at e
  exact e
theorem or_pair' (x y : Nat) (hx : x < 256) (hy : y < 256) : bits .or .i64 (x : Int) ((y : Int) * 256) = ((x + y * 256 : Nat) : Int) := by
  have e := bor64 x (y * 256) (by omega) (by omega)
  have e2 : x ||| y * 256 = x + y * 256 := by rw [Nat.or_comm, Nat.mul_comm, ← Nat.two_pow_add_eq_or_of_lt (i := 8) hx y]; omega
  have e3 : ((y * 256 : Nat) : Int) = (y : Int) * 256 := Int.natCast_mul y 256
  rw [e2, e3] at e
  exact e
set_option maxRecDepth 100000 in
set_option maxHeartbeats 2000000 in
theorem unit_one (l : List UInt8) (i : Nat) (hi : i + 1 < l.length) (h9 : l.length ≤ 1000000) (g s : Nat) (w : World) (hg : w.cell? ⟨g, 0, none⟩ = some (.int .i64 1)) (hs : w.cell? ⟨s, 0, none⟩ = some (.string (bstr l))) :
    Calls Tryd.prog 43 #[.int .i64 i, .pointer (some ⟨g, 0, none⟩), .pointer (some ⟨s, 0, none⟩)] w fun e w' => e = .returned (.int .i64 (Txt.val 1 (l.getD i 0) (l.getD (i + 1) 0) : Nat)) ∧ ∃ k, w' = w.drewN k := by
  have b1 : ∀ h : i < (bstr l).size, ((bstr l)[i]'h).toNat = (l.getD i 0).toNat := fun h => by rw [Txt.bstr_get]
  have b2 : ∀ h : i + 1 < (bstr l).size, ((bstr l)[i + 1]'h).toNat = (l.getD (i + 1) 0).toNat := fun h => by rw [Txt.bstr_get]
  have hx := (l.getD i 0).toNat_lt
  have hy := (l.getD (i + 1) 0).toNat_lt
  have hv : Txt.val 1 (l.getD i 0) (l.getD (i + 1) 0) = (l.getD i 0).toNat * 256 + (l.getD (i + 1) 0).toNat := rfl
  generalize (l.getD i 0).toNat = x at *
  generalize (l.getD (i + 1) 0).toNat = y at *
  have hor := or_pair x y hx hy
  have HV := Lib.hid hv
  have he : ((x * 256 + y : Nat) : Int) = (x : Int) * 256 + (y : Int) := by omega
  have HE := Lib.hid he
  have i1 : (i : Int) < (l.length : Int) := by omega
  have i2 : (i : Int) + 1 < (l.length : Int) := by omega
  have i3 : (0 : Int) ≤ (i : Int) := by omega
  have i4 : (0 : Int) ≤ (i : Int) + 1 := by omega
  have i5 : ((i : Int) + 1).toNat = i + 1 := by omega
  have i6 : IntKind.i64.wrap ((i : Int) + 1) = (i : Int) + 1 := i64_in' _ (by omega) (by omega)
  have i7 : i < l.length := by omega
  have i8 : IntKind.i64.wrap ((x : Int) * 256) = (x : Int) * 256 := i64_in' _ (by omega) (by omega)
  have i9 : (i : Int).toNat = i := by omega
  clear hv he
  go_enter Tryd.func43, Tryd.ntmps43
  go_wp2_with fail
  go_quiet (fail)
  go_wp2_with fail
  go_ret
  refine ⟨?_, nq, rfl⟩
  rw [HV.out, HE.out]; rfl
set_option maxRecDepth 100000 in
set_option maxHeartbeats 2000000 in
theorem unit_zero (l : List UInt8) (i : Nat) (hi : i + 1 < l.length) (h9 : l.length ≤ 1000000) (g s : Nat) (w : World) (hg : w.cell? ⟨g, 0, none⟩ = some (.int .i64 0)) (hs : w.cell? ⟨s, 0, none⟩ = some (.string (bstr l))) :
    Calls Tryd.prog 43 #[.int .i64 i, .pointer (some ⟨g, 0, none⟩), .pointer (some ⟨s, 0, none⟩)] w fun e w' => e = .returned (.int .i64 (Txt.val 0 (l.getD i 0) (l.getD (i + 1) 0) : Nat)) ∧ ∃ k, w' = w.drewN k := by
  have b1 : ∀ h : i < (bstr l).size, ((bstr l)[i]'h).toNat = (l.getD i 0).toNat := fun h => by rw [Txt.bstr_get]
  have b2 : ∀ h : i + 1 < (bstr l).size, ((bstr l)[i + 1]'h).toNat = (l.getD (i + 1) 0).toNat := fun h => by rw [Txt.bstr_get]
  have hx := (l.getD i 0).toNat_lt
  have hy := (l.getD (i + 1) 0).toNat_lt
  have hv : Txt.val 0 (l.getD i 0) (l.getD (i + 1) 0) = (l.getD i 0).toNat + (l.getD (i + 1) 0).toNat * 256 := rfl
  generalize (l.getD i 0).toNat = x at *
  generalize (l.getD (i + 1) 0).toNat = y at *
  have hor := or_pair' x y hx hy
  have HV := Lib.hid hv
  have he : ((x + y * 256 : Nat) : Int) = (x : Int) + (y : Int) * 256 := by omega
  have HE := Lib.hid he
  have i1 : (i : Int) < (l.length : Int) := by omega
  have i2 : (i : Int) + 1 < (l.length : Int) := by omega
  have i3 : (0 : Int) ≤ (i : Int) := by omega
  have i4 : (0 : Int) ≤ (i : Int) + 1 := by omega
  have i5 : ((i : Int) + 1).toNat = i + 1 := by omega
  have i6 : IntKind.i64.wrap ((i : Int) + 1) = (i : Int) + 1 := i64_in' _ (by omega) (by omega)
  have i7 : i < l.length := by omega
  have i8 : IntKind.i64.wrap ((y : Int) * 256) = (y : Int) * 256 := i64_in' _ (by omega) (by omega)
  have i9 : (i : Int).toNat = i := by omega
  clear hv he
  go_enter Tryd.func43, Tryd.ntmps43
  go_wp2_with fail
  go_quiet (fail)
  go_wp2_with fail
  go_ret
  refine ⟨?_, nq, rfl⟩
  rw [HV.out, HE.out]; rfl
theorem unit_any (o : Nat) (ho : o = 0 ∨ o = 1) (l : List UInt8) (i : Nat) (hi : i + 1 < l.length) (h9 : l.length ≤ 1000000) (g s : Nat) (w : World) (hg : w.cell? ⟨g, 0, none⟩ = some (.int .i64 (o : Nat))) (hs : w.cell? ⟨s, 0, none⟩ = some (.string (bstr l))) :
    Calls Tryd.prog 43 #[.int .i64 i, .pointer (some ⟨g, 0, none⟩), .pointer (some ⟨s, 0, none⟩)] w fun e w' => e = .returned (.int .i64 (Txt.val o (l.getD i 0) (l.getD (i + 1) 0) : Nat)) ∧ ∃ k, w' = w.drewN k := by
  rcases ho with rfl | rfl
  · exact unit_zero l i hi h9 g s w hg hs
  · exact unit_one l i hi h9 g s w hg hs
end Go.Proofs.YtnldobfafaajjaaDoor
