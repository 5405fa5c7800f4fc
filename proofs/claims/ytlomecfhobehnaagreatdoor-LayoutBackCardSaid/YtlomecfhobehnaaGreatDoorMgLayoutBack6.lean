/- Contract of expr.one, whatever comes next. -/
import Derived.Test.YtlomecfhobehnaaGreatDoorChecked
import Derived.LaidEql
import Derived.Stop.Asserts
import Derived.RowKitTokens
import Derived.Laws.Externs
import Derived.Test.YtlomecfhobehnaaGreatDoorMgLayoutBack0
import Derived.Test.YtlomecfhobehnaaGreatDoorMgLayoutBack3
import Derived.Test.YtlomecfhobehnaaGreatDoorMgLayoutBack5
section
/- errors.As at a target of type *api.Errno, at an error that is an api.Errno; api.Tell of nil and of such an error. -/
namespace Go.Proofs.YtlomecfhobehnaaGreatDoor
open Go.RowKit Go.Extern.Stop Go.Stop Go.Extern
set_option linter.unusedVariables false
set_option linter.unusedSimpArgs false
/-- the handle of a type -/
abbrev hdl (t : Nat) : Value := .pointer (some ⟨4, t, none⟩)
/-- the variable errors.errorType holds the type 'error' -/
def ErrType (w : World) : Prop := w.cell? ⟨0, 0, none⟩ = some (.iface 175 (.agg #[hdl 30]))
namespace ErrAs
theorem valueOfP (t : Addr) (w : World) : (ReflectliteValue.unpack (.iface 86 (.pointer (some t)))).run Tryz.prog w
    = .ok (.agg #[hdl 86, .pointer (some ⟨w.heap.size, 0, none⟩), .int .u64 150]) (w.alloc (.cells #[.pointer (some t)] 86)) := by kernel_rfl
theorem typeP (a : Addr) (w : World) : (ReflectliteValue.methodAny (ReflectliteValue.valueError "reflectlite.Value.Type" 0) (fun t _ _ _ => ReflectliteType.toType t) #[.agg #[hdl 86, .pointer (some a), .int .u64 150]]).run Tryz.prog w
    = .ok (.iface 175 (.agg #[hdl 86])) w := by kernel_rfl
theorem mKind (h : Value) (w : World) : (Go.method 368 175 (.agg #[h]) "Kind").run Tryz.prog w = .ok (173, h) w := by kernel_rfl
theorem kindP (w : World) : ((ReflectliteType.abiMethod fun t => (fun a : Nat => Value.int IntKind.u8 (a : Int)) <$> Rtype.kind t) #[hdl 86]).run Tryz.prog w = .ok (.int .u8 22) w := by kernel_rfl
theorem kindE (w : World) : ((ReflectliteType.abiMethod fun t => (fun a : Nat => Value.int IntKind.u8 (a : Int)) <$> Rtype.kind t) #[hdl 48]).run Tryz.prog w = .ok (.int .u8 2) w := by kernel_rfl
theorem rlm (z : Sem Value) (f : TypeId → Addr → Nat → Nat → Sem Value) (v : Value) :
    ReflectliteValue.method z f #[v] = (do match ← ReflectliteValue.parts v with | none => z | some (t, a, fl) => f t a fl (fl % 32)) := rfl
theorem partsP (a : Addr) (w : World) : (ReflectliteValue.parts (.agg #[hdl 86, .pointer (some a), .int .u64 150])).run Tryz.prog w = .ok (some (86, a, 150)) w := by kernel_rfl
theorem isNilP (a p : Addr) (W : World) (ha : W.cell? a = some (.pointer (some p))) :
    (ReflectliteValue.method (ReflectliteValue.valueError "reflectlite.Value.IsNil" 0) ReflectliteValue.isNil #[.agg #[hdl 86, .pointer (some a), .int .u64 150]]).run Tryz.prog W = .ok (.bool false) W := by
  rw [rlm]
  simp only [Sem.run_bind, partsP, Result.andThen]
  simp [ReflectliteValue.isNil, loadVar, isAgg, underlying, Tryz.underlying86, ha, Result.andThen]
theorem mElem (h : Value) (w : World) : (Go.method 368 175 (.agg #[h]) "Elem").run Tryz.prog w = .ok (186, .agg #[h]) w := by kernel_rfl
theorem mImplements (h : Value) (w : World) : (Go.method 368 175 (.agg #[h]) "Implements").run Tryz.prog w = .ok (187, .agg #[h]) w := by kernel_rfl
theorem mAssignableTo (h : Value) (w : World) : (Go.method 368 175 (.agg #[h]) "AssignableTo").run Tryz.prog w = .ok (184, .agg #[h]) w := by kernel_rfl
theorem elemP (w : World) : (ReflectliteType.method ReflectliteType.elem #[.agg #[hdl 86]]).run Tryz.prog w = .ok (.iface 175 (.agg #[hdl 48])) w := by kernel_rfl
theorem implementsE (w : World) : (ReflectliteType.relation "Implements" ReflectliteType.implements_ #[.agg #[hdl 48], .iface 175 (.agg #[hdl 30])]).run Tryz.prog w = .ok (.bool true) w := by kernel_rfl
theorem typeOfE (v : Value) (w : World) : (ReflectliteType.typeOf #[.iface 48 v]).run Tryz.prog w = .ok (.iface 175 (.agg #[hdl 48])) w := by kernel_rfl
theorem assignableE (w : World) : (ReflectliteType.relation "AssignableTo" ReflectliteType.assignableTo #[.agg #[hdl 48], .iface 175 (.agg #[hdl 48])]).run Tryz.prog w = .ok (.bool true) w := by kernel_rfl
theorem valueOfE (n : Int) (w : World) : (ReflectliteValue.unpack (.iface 48 (.int .i64 n))).run Tryz.prog w
    = .ok (.agg #[hdl 48, .pointer (some ⟨w.heap.size, 0, none⟩), .int .u64 130]) (w.alloc (.cells #[.int .i64 n] 48)) := by kernel_rfl
theorem elemOfP (w : World) : (Rtype.elem? 86).run Tryz.prog w = .ok (some 48) w := by kernel_rfl
theorem mkE (p : Addr) (w : World) : (ReflectliteValue.mk 48 p ReflectliteValue.flagAddr).run Tryz.prog w = .ok (.agg #[hdl 48, .pointer (some p), .int .u64 386]) w := by kernel_rfl
theorem elemV (a p : Addr) (W : World) (ha : W.cell? a = some (.pointer (some p))) :
    (ReflectliteValue.method (ReflectliteValue.valueError "reflectlite.Value.Elem" 0) ReflectliteValue.elem #[.agg #[hdl 86, .pointer (some a), .int .u64 150]]).run Tryz.prog W
      = .ok (.agg #[hdl 48, .pointer (some p), .int .u64 386]) W := by
  rw [rlm]
  simp only [Sem.run_bind, partsP, Result.andThen]
  simp [ReflectliteValue.elem, loadVar, isAgg, underlying, Tryz.underlying86, ha, Result.andThen, elemOfP, mkE]
theorem rls (v x : Value) : ReflectliteValue.set #[v, x] = (do
    let (some (dst, a, fl), some (src, b, _)) := (← ReflectliteValue.parts v, ← ReflectliteValue.parts x)
      | unsupported (.noEntry "extern/(internal/reflectlite.Value).Set.zeroValue")
    if fl / ReflectliteValue.flagAddr % 2 == 0 then unsupported (.noEntry "extern/(internal/reflectlite.Value).Set.unaddressable")
    let val ← loadVar src b
    if ← Rtype.directlyAssignable dst src then storeVar dst a val
    else if ← Rtype.implements dst src then
      if (← Rtype.kind src) == 20 then
        match val with
        | .nilIface => unsupported (.noEntry "extern/reflectlite: a nil value of one interface type handed on as a value of another")
        | _ => storeVar dst a val
      else storeVar dst a (.iface src val)
    else panicString ("reflectlite.Set: value of type " ++ (← Rtype.spelt src) ++ " is not assignable to type " ++ (← Rtype.spelt dst))
    pure (.tuple #[])) := rfl
theorem partsEa (a : Addr) (w : World) : (ReflectliteValue.parts (.agg #[hdl 48, .pointer (some a), .int .u64 386])).run Tryz.prog w = .ok (some (48, a, 386)) w := by kernel_rfl
theorem partsE (a : Addr) (w : World) : (ReflectliteValue.parts (.agg #[hdl 48, .pointer (some a), .int .u64 130])).run Tryz.prog w = .ok (some (48, a, 130)) w := by kernel_rfl
theorem directE (w : World) : (Rtype.directlyAssignable 48 48).run Tryz.prog w = .ok true w := by kernel_rfl
theorem sizeE (w : World) : (sizeOf 48).run Tryz.prog w = .ok 1 w := by kernel_rfl
theorem setE (ta b : Addr) (n : Int) (old : Value) (W : World) (hb : W.cell? b = some (.int .i64 n)) (ht : W.cell? ta = some old) (hf : W.frozen? ta = false) :
    (ReflectliteValue.set #[.agg #[hdl 48, .pointer (some ta), .int .u64 386], .agg #[hdl 48, .pointer (some b), .int .u64 130]]).run Tryz.prog W
      = .ok (.tuple #[]) (W.setCell ta (.int .i64 n)) := by
  rw [rls]
  simp only [Sem.run_bind, partsEa, partsE, Result.andThen]
  simp [ReflectliteValue.flagAddr, loadVar, isAgg, underlying, Tryz.underlying48, hb, Result.andThen, directE, storeVar, Value.cells, storeCells, Addr.add]
  rw [run_store Tryz.prog W ta _ _ (by rfl)]
  simp [ht, hf]
end ErrAs
end Go.Proofs.YtlomecfhobehnaaGreatDoor
end
section
/- errors.As and api.Tell at an error that is an api.Errno, and at nil. -/
namespace Go.Proofs.YtlomecfhobehnaaGreatDoor
open Go.RowKit Go.Extern.Stop Go.Stop Go.Extern
set_option linter.unusedVariables false
set_option linter.unusedSimpArgs false
theorem ErrType.below {B : Nat} {w w' : World} (h : ErrType w) (hb : Below B w w') (hB : 0 < B) : ErrType w' := (hb.cell (p := ⟨0, 0, none⟩) hB).trans h
theorem ErrType.lt {w : World} (h : ErrType w) : 0 < w.heap.size := World.block_lt_of_cell? w _ h
set_option maxRecDepth 100000 in
theorem as_nil (t : Value) (w : World) :
    Calls Tryz.prog 46 #[.nilIface, t] w fun e w' => e = .returned (.bool false) ∧ w' = w := by
  go_enter Tryz.func46, Tryz.ntmps46
  go_wp2
  go_ret
  exact ⟨rfl, rfl⟩
/-- the blocks that errors.As lays -/
abbrev asW (w : World) (t : Addr) : World := ((w.alloc (.cells #[.pointer (some t)] 86)).alloc (.cells #[hdl 86, .pointer (some ⟨w.heap.size, 0, none⟩), .int .u64 150] 137)).alloc (.cells #[hdl 86, .pointer (some ⟨w.heap.size, 0, none⟩), .int .u64 150] 137)
set_option maxRecDepth 100000 in
set_option maxHeartbeats 4000000 in
theorem as_errno (n : Int) (t : Addr) (old : Value) (w : World) (hg : ErrType w) (ht0 : w.cell? t = some old) (hf0 : w.frozen? t = false) :
    Calls Tryz.prog 46 #[.iface 48 (.int .i64 n), .iface 86 (.pointer (some t))] w fun ev w' => ev = .returned (.bool true) ∧ w' = ((asW w t).alloc (.cells #[.int .i64 n] 48)).setCell t (.int .i64 n) := by
  have hV := @run_callFunc_extern Tryz.prog 77 _ (fun args => ReflectliteValue.unpack (args.getD 0 (.tuple #[]))) Tryz.func77 (by kernel_rfl) (by kernel_rfl) (by kernel_rfl) (by kernel_rfl)
  have hT := @run_callFunc_extern Tryz.prog 78 _ (ReflectliteValue.methodAny (ReflectliteValue.valueError "reflectlite.Value.Type" 0) (fun t _ _ _ => ReflectliteType.toType t)) Tryz.func78 (by kernel_rfl) (by kernel_rfl) (by kernel_rfl) (by kernel_rfl)
  have hN := @run_callFunc_extern Tryz.prog 79 _ (ReflectliteValue.method (ReflectliteValue.valueError "reflectlite.Value.IsNil" 0) ReflectliteValue.isNil) Tryz.func79 (by kernel_rfl) (by kernel_rfl) (by kernel_rfl) (by kernel_rfl)
  have hK := @run_callFunc_extern Tryz.prog 173 _ (ReflectliteType.abiMethod fun t => do pure (.int .u8 (← Rtype.kind t))) Tryz.func173 (by kernel_rfl) (by kernel_rfl) (by kernel_rfl) (by kernel_rfl)
  have hE := @run_callFunc_extern Tryz.prog 186 _ (ReflectliteType.method ReflectliteType.elem) Tryz.func186 (by kernel_rfl) (by kernel_rfl) (by kernel_rfl) (by kernel_rfl)
  have hI := @run_callFunc_extern Tryz.prog 187 _ (ReflectliteType.relation "Implements" ReflectliteType.implements_) Tryz.func187 (by kernel_rfl) (by kernel_rfl) (by kernel_rfl) (by kernel_rfl)
  have hTO := @run_callFunc_extern Tryz.prog 103 _ ReflectliteType.typeOf Tryz.func103 (by kernel_rfl) (by kernel_rfl) (by kernel_rfl) (by kernel_rfl)
  have hA := @run_callFunc_extern Tryz.prog 184 _ (ReflectliteType.relation "AssignableTo" ReflectliteType.assignableTo) Tryz.func184 (by kernel_rfl) (by kernel_rfl) (by kernel_rfl) (by kernel_rfl)
  have hVE := @run_callFunc_extern Tryz.prog 104 _ (ReflectliteValue.method (ReflectliteValue.valueError "reflectlite.Value.Elem" 0) ReflectliteValue.elem) Tryz.func104 (by kernel_rfl) (by kernel_rfl) (by kernel_rfl) (by kernel_rfl)
  have hVS := @run_callFunc_extern Tryz.prog 105 _ ReflectliteValue.set Tryz.func105 (by kernel_rfl) (by kernel_rfl) (by kernel_rfl) (by kernel_rfl)
  have tO := ErrAs.typeOfE
  have mA := ErrAs.mAssignableTo
  have aE := ErrAs.assignableE
  have vE := ErrAs.valueOfE
  have f6 := ErrAs.valueOfP
  have f7 := ErrAs.typeP
  have mK := ErrAs.mKind
  have mE := ErrAs.mElem
  have mI := ErrAs.mImplements
  have kP := ErrAs.kindP
  have kE := ErrAs.kindE
  have eP := ErrAs.elemP
  have iE := ErrAs.implementsE
  have hlt : 0 < w.heap.size := hg.lt
  have htl : t.block < w.heap.size := by
    rcases Nat.lt_or_ge t.block w.heap.size with h | h
    · exact h
    · simp [World.cell?, Array.getElem?_eq_none h] at ht0
  have n8 := ErrAs.isNilP ⟨w.heap.size, 0, none⟩ t ((w.alloc (.cells #[.pointer (some t)] 86)).alloc (.cells #[hdl 86, .pointer (some ⟨w.heap.size, 0, none⟩), .int .u64 150] 137)) (by simp)
  have hg2 : ((w.alloc (.cells #[.pointer (some t)] 86)).alloc (.cells #[hdl 86, .pointer (some ⟨w.heap.size, 0, none⟩), .int .u64 150] 137)).cell? ⟨0, 0, none⟩ = some (.iface 175 (.agg #[hdl 30])) := by
    rw [World.cell?_alloc_lt _ _ ⟨0, 0, none⟩ (by simp <;> omega), World.cell?_alloc_lt _ _ ⟨0, 0, none⟩ hlt]; exact hg
  have el := ErrAs.elemV ⟨w.heap.size, 0, none⟩ t (asW w t) (by rw [World.cell?_alloc_lt _ _ ⟨w.heap.size, 0, none⟩ (by simp; omega)]; simp)
  have st := ErrAs.setE t ⟨w.heap.size + 1 + 1 + 1, 0, none⟩ n old ((asW w t).alloc (.cells #[.int .i64 n] 48))
    (by rw [World.cell?_alloc_at _ _ _ _ (by simp)] <;> rfl)
    (by rw [World.cell?_alloc_lt _ _ t (by simp; omega), World.cell?_alloc_lt _ _ t (by simp; omega), World.cell?_alloc_lt _ _ t (by simp; omega), World.cell?_alloc_lt _ _ t htl]; exact ht0)
    (by rw [World.frozen?_alloc_old _ _ t (by simp; omega), World.frozen?_alloc_old _ _ t (by simp; omega), World.frozen?_alloc_old _ _ t (by simp; omega), World.frozen?_alloc_old _ _ t (Nat.ne_of_lt htl)]; exact hf0)
  go_enter Tryz.func46, Tryz.ntmps46
  go_wp2
  refine wp_loop_rounds 1 ?_
  rw [rounds_succ]
  go_wp2
  go_ret
  exact ⟨rfl, rfl⟩
theorem asW_below (w : World) (t : Addr) (n : Int) : Below w.heap.size w ((asW w t).alloc (.cells #[.int .i64 n] 48)) :=
  ((((Below.refl _ w).alloc (Nat.le_refl _) _).alloc (by simp) _).alloc (by simp; omega) _).alloc (by simp; omega) _
set_option maxRecDepth 100000 in
theorem Tell_nil (w : World) : Calls Tryz.prog 21 #[.nilIface] w fun e w' => e = .returned (.int .i64 0) ∧ w' = w := by
  go_enter Tryz.func21, Tryz.ntmps21
  go_wp2
  go_ret
  exact ⟨rfl, rfl⟩
set_option maxRecDepth 100000 in
theorem Tell_errno (n : Int) (w : World) (hg : ErrType w) : Calls Tryz.prog 21 #[.iface 48 (.int .i64 n)] w fun e w' => e = .returned (.int .i64 n) ∧ Below w.heap.size w w' := by
  have has := as_errno n ⟨w.heap.size, 0, none⟩ (.int .i64 0) (w.alloc (.cells #[.int .i64 0] 48)) (hg.below ((Below.refl _ w).alloc (Nat.le_refl _) _) hg.lt) (by simp) (by simp)
  have hb := asW_below (w.alloc (.cells #[.int .i64 0] 48)) ⟨w.heap.size, 0, none⟩ n
  have hb2 := (((Below.refl _ w).alloc (Nat.le_refl _) (.cells #[.int .i64 0] 48)).trans (hb.mono (by simp))).setCell (p := ⟨w.heap.size, 0, none⟩) (Nat.le_refl _) (.int .i64 n)
  have hc : (((asW (w.alloc (.cells #[.int .i64 0] 48)) ⟨w.heap.size, 0, none⟩).alloc (.cells #[.int .i64 n] 48)).setCell ⟨w.heap.size, 0, none⟩ (.int .i64 n)).cell? ⟨w.heap.size, 0, none⟩ = some (.int .i64 n) := by
    refine World.cell?_setCell_same' _ _ _ ?_
    rw [hb.cell (p := ⟨w.heap.size, 0, none⟩) (by simp)]
    simp
  generalize ((asW (w.alloc (.cells #[.int .i64 0] 48)) ⟨w.heap.size, 0, none⟩).alloc (.cells #[.int .i64 n] 48)).setCell ⟨w.heap.size, 0, none⟩ (.int .i64 n) = w9 at *
  have HAS := Lib.hid has; clear has hb
  go_enter Tryz.func21, Tryz.ntmps21
  go_wp2_with fail
  refine HAS.out.mono ?_
  rintro e w1 ⟨rfl, rfl⟩
  go_wp2_with fail
  go_ret
  exact ⟨rfl, hb2⟩
end Go.Proofs.YtlomecfhobehnaaGreatDoor
end
section
/- Contract of expr.one, whatever comes next. -/
namespace Go.Proofs.YtlomecfhobehnaaGreatDoor
open Go.RowKit
set_option linter.unusedVariables false
set_option linter.unusedSimpArgs false
namespace Rd
open Ex
/-- an expression that lies in memory: each node in a younger block than rb -/
def IsX (w : World) (rb : Nat) : Nat → X → Prop
  | b, .num a n => rb < b ∧ RowAt w b 0 202 [.int .i64 1, .int .i64 (a : Nat), .int .i64 (n : Nat), .string ByteArray.empty, .string ByteArray.empty, .pointer none, .pointer none]
  | b, .name a s => rb < b ∧ RowAt w b 0 202 [.int .i64 2, .int .i64 (a : Nat), .int .i64 0, .string (bstr s), .string ByteArray.empty, .pointer none, .pointer none]
  | b, .bin a op l r => ∃ bl br, rb < b ∧ RowAt w b 0 202 [.int .i64 3, .int .i64 (a : Nat), .int .i64 0, .string ByteArray.empty, .string (bstr op), .pointer (some ⟨bl, 0, none⟩), .pointer (some ⟨br, 0, none⟩)] ∧ IsX w rb bl l ∧ IsX w rb br r
theorem IsX.grown {w w' : World} {rb : Nat} (hg : w.grownBy w' (some rb)) : ∀ (x : X) (b : Nat), IsX w rb b x → IsX w' rb b x
  | .num a n, b, h => ⟨h.1, h.2.of_heap (hg.block b h.2.lt (fun e => by injection e with e; have := h.1; omega))⟩
  | .name a s, b, h => ⟨h.1, h.2.of_heap (hg.block b h.2.lt (fun e => by injection e with e; have := h.1; omega))⟩
  | .bin a op l r, b, h => by
    obtain ⟨bl, br, h1, h2, h3, h4⟩ := h
    exact ⟨bl, br, h1, h2.of_heap (hg.block b h2.lt (fun e => by injection e with e; omega)), IsX.grown hg l bl h3, IsX.grown hg r br h4⟩
/-- the table of ops by level -/
def LevelsAt (w : World) (rb : Nat) : Prop := 2 < rb ∧ ∀ k, k < 3 → ∃ (gk : Addr) (ck : Nat), w.cell? ⟨2, k, none⟩ = some (.slice (some gk) (levels k).length ck) ∧ gk.block < rb ∧ ∀ j, j < (levels k).length → w.cell? (gk.add j) = some (.string (bstr ((levels k).getD j [])))
structure Env (w : World) (rb : Nat) : Prop where
  lv : LevelsAt w rb
  er : ErrType w
  eb : 0 < rb
theorem Env.grown {w w' : World} {rb : Nat} (h : Env w rb) (hg : w.grownBy w' (some rb)) (hrb : rb < w.heap.size) : Env w' rb := by
  have key : ∀ (p : Addr), p.block < rb → w'.cell? p = w.cell? p := fun p hlt => World.cell?_of_block (hg.block p.block (Nat.lt_trans hlt hrb) (fun e => by injection e with e; omega))
  refine ⟨⟨h.lv.1, fun k hk => ?_⟩, (key ⟨_, 0, none⟩ h.eb).trans h.er, h.eb⟩
  obtain ⟨gk, ck, h1, h2, h3⟩ := h.lv.2 k hk
  exact ⟨gk, ck, (key ⟨_, k, none⟩ h.lv.1).trans h1, h2, fun j hj => (key (gk.add j) (by rw [Addr.add_block]; exact h2)).trans (h3 j hj)⟩
/-- how the parser ends -/
def Post (w : World) (rb E : Nat) (o : Ex.Out) (e : Ending) (w' : World) : Prop := match o with
  | .ok x R => ∃ b, e = .returned (.pointer (some ⟨b, 0, none⟩)) ∧ IsX w' rb b x ∧ Rdr w' rb R E ∧ w.grownBy w' (some rb)
  | .bad en p => ∃ g, e = thrown g ∧ RowAt w' g 0 122 [.int .i64 (en : Nat), .int .i64 (p : Nat)] ∧ w.heap.size ≤ g ∧ w.grownBy w' (some rb)
def LevC (rb E k d : Nat) (T : List Tok) (o : Ex.Out) : Prop := ∀ w, Env w rb → Rdr w rb T E → Calls Tryz.prog 138 #[.pointer (some ⟨rb, 0, none⟩), .int .i64 (k : Nat), .int .i64 (d : Nat)] w (Post w rb E o)
def OneC (rb E d : Nat) (T : List Tok) (o : Ex.Out) : Prop := ∀ w, Env w rb → Rdr w rb T E → Calls Tryz.prog 152 #[.pointer (some ⟨rb, 0, none⟩), .int .i64 (d : Nat)] w (Post w rb E o)
def ReadC (rb E d : Nat) (T : List Tok) (o : Ex.Out) : Prop := ∀ w, Env w rb → Rdr w rb T E → Calls Tryz.prog 113 #[.pointer (some ⟨rb, 0, none⟩), .int .i64 (d : Nat)] w (Post w rb E o)
end Rd
open Rd
open Ex (X)
set_option maxRecDepth 100000 in
theorem Read_ok (rb E d : Nat) (T : List Rd.Tok) (x : X) (R : List Rd.Tok) (h : LevC rb E 0 d T (.ok x R)) : ReadC rb E d T (.ok x R) := by
  intro w henv hr
  have H := Lib.hid (h w henv hr)
  clear h henv hr
  go_enter Tryz.func113, Tryz.ntmps113
  go_wp2_with fail
  refine H.out.mono ?_
  rintro e w1 ⟨b, rfl, h1⟩
  go_wp2_with fail
  go_ret
  exact ⟨b, rfl, h1⟩
set_option maxRecDepth 100000 in
theorem Read_bad (rb E d : Nat) (T : List Rd.Tok) (en p : Nat) (h : LevC rb E 0 d T (.bad en p)) : ReadC rb E d T (.bad en p) := by
  intro w henv hr
  have h1 := h w henv hr
  unfold Post thrown at h1 ⊢
  have H := Lib.hid h1
  clear h h1 henv hr
  go_enter Tryz.func113, Tryz.ntmps113
  go_wp2_with fail
  refine H.out.mono ?_
  rintro e w1 ⟨g, rfl, h1⟩
  go_wp2_with fail
  exact ⟨rfl, g, rfl, h1⟩
set_option maxRecDepth 100000 in
set_option maxHeartbeats 1000000 in
theorem one_paren (rb E d : Nat) (t u : Rd.Tok) (T T' : List Rd.Tok) (x : X) (ht : t.1 = [40]) (hd : d < 8) (hC : ReadC rb E (d + 1) T (.ok x (u :: T'))) (hu : u.1 = [41]) : OneC rb E d (t :: T) (.ok x T') := by
  intro w henv hr
  have HA := Lib.hid (At_any rb (t :: T) E w hr)
  have hT := Take_yes rb t T E w hr (by rw [ht]; simp)
  rw [ht] at hT
  have HT := Lib.hid hT
  have HE := Lib.hid henv
  have HL := Lib.hid hr.lt
  have hC2 : ∀ w, Env w rb → Rdr w rb T E → Calls Tryz.prog 113 #[.pointer (some ⟨rb, 0, none⟩), .int .i64 ((d : Int) + 1)] w (Post w rb E (.ok x (u :: T'))) := hC
  have HC := Lib.hid hC2
  have HM : Hid (∀ w, Rdr w rb (u :: T') E → Calls Tryz.prog 53 #[.pointer (some ⟨rb, 0, none⟩), .string (bstr [41])] w fun e w' => e = .returned (.tuple #[]) ∧ Rdr w' rb T' E ∧ w.grownBy w' (some rb)) := Lib.hid fun w h => by
    have := Must_yes rb u T' E w h (by rw [hu]; simp)
    rw [hu] at this
    exact this
  have d1 : ((d : Int) == 8) = false := by rw [beq_eq_false_iff_ne]; omega
  generalize Ex.atOf E (t :: T) = at_ at *
  clear hT hr henv hC hC2 ht hu
  go_enter Tryz.func152, Tryz.ntmps152
  go_wp2_with fail
  refine HA.out.mono ?_
  rintro e w0 ⟨rfl, rfl⟩
  go_wp2_with fail
  refine HT.out.mono ?_
  rintro e w1 ⟨rfl, hr1, hg1⟩
  have HR1 := Lib.hid hr1; have HG1 := Lib.hid hg1
  clear hr1 hg1
  go_wp2_with fail
  refine (HC.out w1 (HE.out.grown HG1.out HL.out) HR1.out).mono ?_
  rintro e w2 ⟨b, rfl, hx2, hr2, hg2⟩
  have HX2 := Lib.hid hx2; have HR2 := Lib.hid hr2; have HG2 := Lib.hid (grownBy_trans HG1.out hg2)
  clear hx2 hr2 hg2
  go_wp2_with fail
  refine (HM.out w2 HR2.out).mono ?_
  rintro e w3 ⟨rfl, hr3, hg3⟩
  have HR3 := Lib.hid hr3; have HG3 := Lib.hid (grownBy_trans HG2.out hg3); have HX3 := Lib.hid (IsX.grown hg3 x b HX2.out)
  clear hr3 hg3
  go_wp2_with fail
  go_ret
  exact ⟨b, rfl, HX3.out, HR3.out, HG3.out⟩
set_option maxRecDepth 100000 in
set_option maxHeartbeats 1000000 in
theorem one_parenNone (rb E d : Nat) (t : Rd.Tok) (T T' : List Rd.Tok) (x : X) (ht : t.1 = [40]) (hd : d < 8) (hC : ReadC rb E (d + 1) T (.ok x T')) (hu : ∀ u T'', T' = u :: T'' → u.1 ≠ [41]) : OneC rb E d (t :: T) (.bad 3 (Ex.atOf E T')) := by
  intro w henv hr
  have HA := Lib.hid (At_any rb (t :: T) E w hr)
  have hT := Take_yes rb t T E w hr (by rw [ht]; simp)
  rw [ht] at hT
  have HT := Lib.hid hT
  have HE := Lib.hid henv
  have HL := Lib.hid hr.lt
  have hC2 : ∀ w, Env w rb → Rdr w rb T E → Calls Tryz.prog 113 #[.pointer (some ⟨rb, 0, none⟩), .int .i64 ((d : Int) + 1)] w (Post w rb E (.ok x T')) := hC
  have HC := Lib.hid hC2
  have hM := fun w h => Must_no rb T' E [41] w h (by simp) (by
    cases T' with
    | nil => simp [textOf]
    | cons u T'' => exact hu u T'' rfl)
  unfold thrown at hM
  have HM := Lib.hid hM
  have d1 : ((d : Int) == 8) = false := by rw [beq_eq_false_iff_ne]; omega
  unfold Post thrown
  generalize Ex.atOf E (t :: T) = at_ at *
  generalize Ex.atOf E T' = at2 at *
  clear hT hr henv hC hC2 hM ht hu
  go_enter Tryz.func152, Tryz.ntmps152
  go_wp2_with fail
  refine HA.out.mono ?_
  rintro e w0 ⟨rfl, rfl⟩
  go_wp2_with fail
  refine HT.out.mono ?_
  rintro e w1 ⟨rfl, hr1, hg1⟩
  have HR1 := Lib.hid hr1; have HG1 := Lib.hid hg1
  clear hr1 hg1
  go_wp2_with fail
  refine (HC.out w1 (HE.out.grown HG1.out HL.out) HR1.out).mono ?_
  rintro e w2 ⟨b, rfl, hx2, hr2, hg2⟩
  have HR2 := Lib.hid hr2; have HG2 := Lib.hid (grownBy_trans HG1.out hg2)
  clear hx2 hr2 hg2
  go_wp2_with fail
  refine (HM.out w2 HR2.out).mono ?_
  rintro e w3 ⟨rfl, hr3, hb3⟩
  have HR3 := Lib.hid hr3; have HG3 := Lib.hid (grownBy_trans HG2.out (below_grown hb3 _))
  clear hr3 hb3
  go_wp2_with fail
  exact ⟨rfl, _, rfl, HR3.out, HG2.out.size, HG3.out⟩
set_option maxRecDepth 100000 in
set_option maxHeartbeats 1000000 in
theorem one_parenBad (rb E d : Nat) (t : Rd.Tok) (T : List Rd.Tok) (en p : Nat) (ht : t.1 = [40]) (hd : d < 8) (hC : ReadC rb E (d + 1) T (.bad en p)) : OneC rb E d (t :: T) (.bad en p) := by
  intro w henv hr
  have HA := Lib.hid (At_any rb (t :: T) E w hr)
  have hT := Take_yes rb t T E w hr (by rw [ht]; simp)
  rw [ht] at hT
  have HT := Lib.hid hT
  have HE := Lib.hid henv
  have HL := Lib.hid hr.lt
  have hC2 : ∀ w, Env w rb → Rdr w rb T E → Calls Tryz.prog 113 #[.pointer (some ⟨rb, 0, none⟩), .int .i64 ((d : Int) + 1)] w (Post w rb E (.bad en p)) := hC
  unfold Post thrown at hC2 ⊢
  have HC := Lib.hid hC2
  have d1 : ((d : Int) == 8) = false := by rw [beq_eq_false_iff_ne]; omega
  generalize Ex.atOf E (t :: T) = at_ at *
  clear hT hr henv hC hC2 ht
  go_enter Tryz.func152, Tryz.ntmps152
  go_wp2_with fail
  refine HA.out.mono ?_
  rintro e w0 ⟨rfl, rfl⟩
  go_wp2_with fail
  refine HT.out.mono ?_
  rintro e w1 ⟨rfl, hr1, hg1⟩
  have HR1 := Lib.hid hr1; have HG1 := Lib.hid hg1
  clear hr1 hg1
  go_wp2_with fail
  refine (HC.out w1 (HE.out.grown HG1.out HL.out) HR1.out).mono ?_
  rintro e w2 ⟨g, rfl, h1, h2, h3⟩
  have H1 := Lib.hid h1; have H2 := Lib.hid (Nat.le_trans HG1.out.size h2); have HG2 := Lib.hid (grownBy_trans HG1.out h3)
  clear h1 h2 h3
  go_wp2_with fail
  exact ⟨rfl, g, rfl, H1.out, H2.out, HG2.out⟩
set_option maxRecDepth 100000 in
set_option maxHeartbeats 1000000 in
theorem one_deep (rb E : Nat) (t : Rd.Tok) (T : List Rd.Tok) (ht : t.1 = [40]) : OneC rb E 8 (t :: T) (.bad 4 t.2) := by
  intro w henv hr
  have HA := Lib.hid (At_any rb (t :: T) E w hr)
  have hT := Take_yes rb t T E w hr (by rw [ht]; simp)
  rw [ht] at hT
  have HT := Lib.hid hT
  have hat : Ex.atOf E (t :: T) = t.2 := rfl
  rw [hat] at HA
  have hF := fun w => Fail_any rb 4 t.2 w
  unfold thrown at hF
  unfold Post thrown
  have HF := Lib.hid hF
  generalize t.2 = at_ at *
  clear hT hr henv ht hF hat
  go_enter Tryz.func152, Tryz.ntmps152
  go_wp2_with fail
  refine HA.out.mono ?_
  rintro e w0 ⟨rfl, rfl⟩
  go_wp2_with fail
  refine HT.out.mono ?_
  rintro e w1 ⟨rfl, hr1, hg1⟩
  have HR1 := Lib.hid hr1; have HG1 := Lib.hid hg1
  clear hr1 hg1
  go_wp2_with fail
  refine (HF.out w1).mono ?_
  rintro e w2 ⟨rfl, h1, h2⟩
  have H1 := Lib.hid h1; have HG2 := Lib.hid (grownBy_trans HG1.out (below_grown h2 _))
  clear h1 h2
  go_wp2_with fail
  exact ⟨rfl, _, rfl, H1.out, HG1.out.size, HG2.out⟩
/-- lex.Name -/
theorem Name_any (c : UInt8) (r : List UInt8) (w : World) : Calls Tryz.prog 86 #[.string (bstr (c :: r))] w fun e w' => e = .returned (.bool (Lex.letter c.toNat)) ∧ w = w' := by
  have HL := Lib.hid (fun w => letter_any c.toNat (UInt8.toNat_lt c) w)
  have s0 : ∀ h : 0 < (bstr (c :: r)).size, ((bstr (c :: r))[0]'h).toNat = c.toNat := fun h => rfl
  have l0 : (bstr (c :: r)).size = r.length + 1 := by rw [bstr_size, List.length_cons]
  have m0 : (bstr (c :: r)).toList.isEmpty = false := by rw [bstr_toList]; rfl
  have hp : (0 : Int) < (r.length : Int) + 1 := by omega
  generalize Lex.letter c.toNat = b at *
  generalize c.toNat = x at *
  generalize bstr (c :: r) = S at *
  go_enter Tryz.func86, Tryz.ntmps86
  go_wp2_with fail
  refine (HL.out _).mono ?_
  rintro e w1 ⟨rfl, rfl⟩
  go_wp2_with fail
  go_ret
  exact ⟨rfl, rfl⟩
end Go.Proofs.YtlomecfhobehnaaGreatDoor
end
