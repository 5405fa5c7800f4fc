/- errors.As and api.Tell at an error that is an api.Errno, and at nil. -/
import Derived.Test.YtnmbakibiaedhaaDoorErrAs
namespace Go.Proofs.YtnmbakibiaedhaaDoor
open Go.RowKit Go.Extern.Stop Go.Stop Go.Extern
set_option linter.unusedVariables false
set_option linter.unusedSimpArgs false
theorem ErrType.below {B : Nat} {w w' : World} (h : ErrType w) (hb : Below B w w') (hB : 1 < B) : ErrType w' := (hb.cell (p := ⟨1, 0, none⟩) hB).trans h
theorem ErrType.lt {w : World} (h : ErrType w) : 1 < w.heap.size := World.block_lt_of_cell? w _ h
set_option maxRecDepth 100000 in
theorem as_nil (t : Value) (w : World) :
    Calls Tryd.prog 44 #[.nilIface, t] w fun e w' => e = .returned (.bool false) ∧ w' = w := by
  go_enter Tryd.func44, Tryd.ntmps44
  go_wp2
  go_ret
  exact ⟨rfl, rfl⟩
/-- the blocks that errors.As lays -/
abbrev asW (w : World) (t : Addr) : World := ((w.alloc (.cells #[.pointer (some t)] 87)).alloc (.cells #[hdl 87, .pointer (some ⟨w.heap.size, 0, none⟩), .int .u64 150] 143)).alloc (.cells #[hdl 87, .pointer (some ⟨w.heap.size, 0, none⟩), .int .u64 150] 143)
set_option maxRecDepth 100000 in
set_option maxHeartbeats 4000000 in
theorem as_errno (n : Int) (t : Addr) (old : Value) (w : World) (hg : ErrType w) (ht0 : w.cell? t = some old) (hf0 : w.frozen? t = false) :
    Calls Tryd.prog 44 #[.iface 31 (.int .i64 n), .iface 87 (.pointer (some t))] w fun ev w' => ev = .returned (.bool true) ∧ w' = ((asW w t).alloc (.cells #[.int .i64 n] 31)).setCell t (.int .i64 n) := by
  have hV := @run_callFunc_extern Tryd.prog 78 _ (fun args => ReflectliteValue.unpack (args.getD 0 (.tuple #[]))) Tryd.func78 (by kernel_rfl) (by kernel_rfl) (by kernel_rfl) (by kernel_rfl)
  have hT := @run_callFunc_extern Tryd.prog 79 _ (ReflectliteValue.methodAny (ReflectliteValue.valueError "reflectlite.Value.Type" 0) (fun t _ _ _ => ReflectliteType.toType t)) Tryd.func79 (by kernel_rfl) (by kernel_rfl) (by kernel_rfl) (by kernel_rfl)
  have hN := @run_callFunc_extern Tryd.prog 80 _ (ReflectliteValue.method (ReflectliteValue.valueError "reflectlite.Value.IsNil" 0) ReflectliteValue.isNil) Tryd.func80 (by kernel_rfl) (by kernel_rfl) (by kernel_rfl) (by kernel_rfl)
  have hK := @run_callFunc_extern Tryd.prog 170 _ (ReflectliteType.abiMethod fun t => do pure (.int .u8 (← Rtype.kind t))) Tryd.func170 (by kernel_rfl) (by kernel_rfl) (by kernel_rfl) (by kernel_rfl)
  have hE := @run_callFunc_extern Tryd.prog 183 _ (ReflectliteType.method ReflectliteType.elem) Tryd.func183 (by kernel_rfl) (by kernel_rfl) (by kernel_rfl) (by kernel_rfl)
  have hI := @run_callFunc_extern Tryd.prog 184 _ (ReflectliteType.relation "Implements" ReflectliteType.implements_) Tryd.func184 (by kernel_rfl) (by kernel_rfl) (by kernel_rfl) (by kernel_rfl)
  have hTO := @run_callFunc_extern Tryd.prog 104 _ ReflectliteType.typeOf Tryd.func104 (by kernel_rfl) (by kernel_rfl) (by kernel_rfl) (by kernel_rfl)
  have hA := @run_callFunc_extern Tryd.prog 181 _ (ReflectliteType.relation "AssignableTo" ReflectliteType.assignableTo) Tryd.func181 (by kernel_rfl) (by kernel_rfl) (by kernel_rfl) (by kernel_rfl)
  have hVE := @run_callFunc_extern Tryd.prog 105 _ (ReflectliteValue.method (ReflectliteValue.valueError "reflectlite.Value.Elem" 0) ReflectliteValue.elem) Tryd.func105 (by kernel_rfl) (by kernel_rfl) (by kernel_rfl) (by kernel_rfl)
  have hVS := @run_callFunc_extern Tryd.prog 106 _ ReflectliteValue.set Tryd.func106 (by kernel_rfl) (by kernel_rfl) (by kernel_rfl) (by kernel_rfl)
  have tO := ErrAs.typeOfE
  have mA := ErrAs.mAssignableTo
  have aE := ErrAs.assignableE
  have vE := ErrAs.valueOfE
  have f6 := ErrAs.valueOfP
  have f7 := ErrAs.typeP
  have mK := ErrAs.mKind
  have mE := ErrAs.mElem
  have mI := ErrAs.mImplements
  have kP := ErrAs.kindP
  have kE := ErrAs.kindE
  have eP := ErrAs.elemP
  have iE := ErrAs.implementsE
  have hlt : 1 < w.heap.size := hg.lt
  have htl : t.block < w.heap.size := by
    rcases Nat.lt_or_ge t.block w.heap.size with h | h
    · exact h
    · simp [World.cell?, Array.getElem?_eq_none h] at ht0
  have n8 := ErrAs.isNilP ⟨w.heap.size, 0, none⟩ t ((w.alloc (.cells #[.pointer (some t)] 87)).alloc (.cells #[hdl 87, .pointer (some ⟨w.heap.size, 0, none⟩), .int .u64 150] 143)) (by simp)
  have hg2 : ((w.alloc (.cells #[.pointer (some t)] 87)).alloc (.cells #[hdl 87, .pointer (some ⟨w.heap.size, 0, none⟩), .int .u64 150] 143)).cell? ⟨1, 0, none⟩ = some (.iface 177 (.agg #[hdl 27])) := by
    rw [World.cell?_alloc_lt _ _ ⟨1, 0, none⟩ (by simp; omega), World.cell?_alloc_lt _ _ ⟨1, 0, none⟩ hlt]; exact hg
  have el := ErrAs.elemV ⟨w.heap.size, 0, none⟩ t (asW w t) (by rw [World.cell?_alloc_lt _ _ ⟨w.heap.size, 0, none⟩ (by simp; omega)]; simp)
  have st := ErrAs.setE t ⟨w.heap.size + 1 + 1 + 1, 0, none⟩ n old ((asW w t).alloc (.cells #[.int .i64 n] 31))
    (by rw [World.cell?_alloc_at _ _ _ _ (by simp)]; rfl)
    (by rw [World.cell?_alloc_lt _ _ t (by simp; omega), World.cell?_alloc_lt _ _ t (by simp; omega), World.cell?_alloc_lt _ _ t (by simp; omega), World.cell?_alloc_lt _ _ t htl]; exact ht0)
    (by rw [World.frozen?_alloc_old _ _ t (by simp; omega), World.frozen?_alloc_old _ _ t (by simp; omega), World.frozen?_alloc_old _ _ t (by simp; omega), World.frozen?_alloc_old _ _ t (Nat.ne_of_lt htl)]; exact hf0)
  go_enter Tryd.func44, Tryd.ntmps44
  go_wp2
  refine wp_loop_rounds 1 ?_
  rw [rounds_succ]
  go_wp2
  go_ret
  exact ⟨rfl, rfl⟩
theorem asW_below (w : World) (t : Addr) (n : Int) : Below w.heap.size w ((asW w t).alloc (.cells #[.int .i64 n] 31)) :=
  ((((Below.refl _ w).alloc (Nat.le_refl _) _).alloc (by simp) _).alloc (by simp; omega) _).alloc (by simp; omega) _
set_option maxRecDepth 100000 in
theorem Tell_nil (w : World) : Calls Tryd.prog 14 #[.nilIface] w fun e w' => e = .returned (.int .i64 0) ∧ w' = w := by
  go_enter Tryd.func14, Tryd.ntmps14
  go_wp2
  go_ret
  exact ⟨rfl, rfl⟩
set_option maxRecDepth 100000 in
theorem Tell_errno (n : Int) (w : World) (hg : ErrType w) : Calls Tryd.prog 14 #[.iface 31 (.int .i64 n)] w fun e w' => e = .returned (.int .i64 n) ∧ Below w.heap.size w w' := by
  have has := as_errno n ⟨w.heap.size, 0, none⟩ (.int .i64 0) (w.alloc (.cells #[.int .i64 0] 31)) (hg.below ((Below.refl _ w).alloc (Nat.le_refl _) _) hg.lt) (by simp) (by simp)
  have hb := asW_below (w.alloc (.cells #[.int .i64 0] 31)) ⟨w.heap.size, 0, none⟩ n
  have hb2 := (((Below.refl _ w).alloc (Nat.le_refl _) (.cells #[.int .i64 0] 31)).trans (hb.mono (by simp))).setCell (p := ⟨w.heap.size, 0, none⟩) (Nat.le_refl _) (.int .i64 n)
  have hc : (((asW (w.alloc (.cells #[.int .i64 0] 31)) ⟨w.heap.size, 0, none⟩).alloc (.cells #[.int .i64 n] 31)).setCell ⟨w.heap.size, 0, none⟩ (.int .i64 n)).cell? ⟨w.heap.size, 0, none⟩ = some (.int .i64 n) := by
    refine World.cell?_setCell_same' _ _ _ ?_
    rw [hb.cell (p := ⟨w.heap.size, 0, none⟩) (by simp)]
    simp
  generalize ((asW (w.alloc (.cells #[.int .i64 0] 31)) ⟨w.heap.size, 0, none⟩).alloc (.cells #[.int .i64 n] 31)).setCell ⟨w.heap.size, 0, none⟩ (.int .i64 n) = w9 at *
  have HAS := Lib.hid has; clear has hb
  go_enter Tryd.func14, Tryd.ntmps14
  go_wp2_with fail
  refine HAS.out.mono ?_
  rintro e w1 ⟨rfl, rfl⟩
  go_wp2_with fail
  go_ret
  exact ⟨rfl, hb2⟩
end Go.Proofs.YtnmbakibiaedhaaDoor
