/- lex.Name of any text. -/
import Derived.Test.YtlpkebngehmimaaGreatDoorMgTypesMore14
import Derived.Test.YtlpkebngehmimaaGreatDoorMgTypesMore15
import Derived.Test.YtlpkebngehmimaaGreatDoorMgTypesMore10
import Derived.Test.YtlpkebngehmimaaGreatDoorMgTypesMore12
section
/- Contract of expr.Text. -/
namespace Go.Proofs.YtlpkebngehmimaaGreatDoor
open Go.RowKit
set_option linter.unusedVariables false
set_option linter.unusedSimpArgs false
open Rd
open Ex (X levels)
theorem Print_dec (n : Nat) (w : World) (hn : n < 18446744073709551616) : Calls Tryz.prog 99 #[.int .u64 (n : Nat), .int .i64 10, .int .i64 0] w fun e w' => e = .returned (.tuple #[.string (bstr (Num.dec n)), .nilIface]) ∧ Below w.heap.size w w' := by
  refine (Print_any n 10 0 w hn (by decide) (by decide) (by decide)).mono ?_
  rintro e w' ⟨⟨J, hJ, rfl⟩, hb⟩
  have : J = Num.wdt n := Digits.Wide.unique hJ (Num.wdt_wide n hn)
  subst this
  exact ⟨rfl, hb⟩
set_option maxRecDepth 100000 in
theorem Text_num (a n : Nat) (hn : n < 9223372036854775808) : TextC (.num a n) := by
  intro w rb b hl hrb hx hp
  have c0 := hx.2.cell0 0 (by simp)
  have c2 := hx.2.cell0 2 (by simp)
  simp only [List.getElem_cons_zero, List.getElem_cons_succ] at c0 c2
  have HP := Lib.hid (Print_dec n w (by omega))
  have hw : IntKind.u64.wrap (n : Int) = (n : Int) := by rw [IntKind.wrap_u64]; omega
  clear hx hl hp
  show Calls _ _ _ _ fun e w' => e = .returned (.string (bstr (Num.dec n))) ∧ Below w.heap.size w w'
  go_enter Tryz.func70, Tryz.ntmps70
  go_wp2_with fail
  refine HP.out.mono ?_
  rintro e w1 ⟨rfl, hb⟩
  go_wp2_with fail
  go_ret
  exact ⟨rfl, hb⟩
set_option maxRecDepth 100000 in
theorem Text_name (a : Nat) (s : List UInt8) : TextC (.name a s) := by
  intro w rb b hl hrb hx hp
  have c0 := hx.2.cell0 0 (by simp)
  have c3 := hx.2.cell0 3 (by simp)
  simp only [List.getElem_cons_zero, List.getElem_cons_succ] at c0 c3
  clear hx hl hp
  show Calls _ _ _ _ fun e w' => e = .returned (.string (bstr s)) ∧ Below w.heap.size w w'
  go_enter Tryz.func70, Tryz.ntmps70
  go_wp2_with fail
  go_ret
  exact ⟨rfl, Below.refl _ _⟩
theorem pr_bin (a : Nat) (op : List UInt8) (l r : X) : Ex.pr Num.dec (.bin a op l r) = partOf l (Ex.opLevel op) ++ 32 :: (op ++ 32 :: partOf r (Ex.opLevel op + 1)) := rfl
theorem part_ge (x : X) (k : Nat) : (Ex.pr Num.dec x).length ≤ (partOf x k).length := by
  unfold partOf
  split
  · simp only [List.length_cons, List.length_append]; omega
  · exact Nat.le_refl _
/-- what the region keeps: the node's cells -/
abbrev TS (w : World) (b bl br : Nat) (op : List UInt8) (w1 : World) : Prop := w1.cell? ⟨b, 5, none⟩ = some (.pointer (some ⟨bl, 0, none⟩)) ∧ w1.cell? ⟨b, 4, none⟩ = some (.string (bstr op)) ∧ w1.cell? ⟨b, 6, none⟩ = some (.pointer (some ⟨br, 0, none⟩)) ∧ Below w.heap.size w w1
theorem TS.keep {w w1 w2 : World} {b bl br : Nat} {op : List UInt8} (h : TS w b bl br op w1) (hb : b < w.heap.size) (h2 : Below w1.heap.size w1 w2) : TS w b bl br op w2 := by
  have hlt : b < w1.heap.size := Nat.lt_of_lt_of_le hb h.2.2.2.size
  exact ⟨(h2.cell (p := ⟨b, 5, none⟩) hlt).trans h.1, (h2.cell (p := ⟨b, 4, none⟩) hlt).trans h.2.1, (h2.cell (p := ⟨b, 6, none⟩) hlt).trans h.2.2.1, h.2.2.2.trans (h2.mono h.2.2.2.size)⟩
theorem TS.drew {w w1 : World} {b bl br : Nat} {op : List UInt8} (h : TS w b bl br op w1) : TS w b bl br op w1.drew := ⟨h.1, h.2.1, h.2.2.1, h.2.2.2.drew⟩
set_option maxRecDepth 100000 in
set_option maxHeartbeats 4000000 in
theorem Text_bin (a : Nat) (op : List UInt8) (l r : X) (hop : Ex.opLevel op < 3) (hL : TextC l) (hR : TextC r) : TextC (.bin a op l r) := by
  intro w rb b hl hrb hx hp
  have HH := Lib.hid (hold_x hl hx)
  have hh : Ex.hold (.bin a op l r) = Ex.opLevel op := rfl
  rw [hh] at HH
  obtain ⟨bl, br, h1, h2, h3, h4⟩ := hx
  have c0 := h2.cell0 0 (by simp)
  have c4 := h2.cell0 4 (by simp)
  have c5 := h2.cell0 5 (by simp)
  have c6 := h2.cell0 6 (by simp)
  simp only [List.getElem_cons_zero, List.getElem_cons_succ] at c0 c4 c5 c6
  rw [pr_bin] at hp ⊢
  have hpl := part_ge l (Ex.opLevel op)
  have hpr := part_ge r (Ex.opLevel op + 1)
  simp only [List.length_append, List.length_cons] at hp
  obtain ⟨k, hk⟩ : ∃ k, k = Ex.opLevel op := ⟨_, rfl⟩
  rw [← hk] at hpl hpr hp HH hop ⊢
  have hblt := h2.lt
  have hlv : ∀ W, Below w.heap.size w W → LevelsAt W rb := fun W hB => by
    refine ⟨hl.1, fun i hi => ?_⟩
    obtain ⟨gk, ck, e1, e2, e3⟩ := hl.2 i hi
    exact ⟨gk, ck, (hB.cell (p := ⟨_, i, none⟩) (Nat.lt_of_lt_of_le hl.1 hrb)).trans e1, e2, fun j hj => (hB.cell (p := gk.add j) (by rw [Addr.add_block]; exact Nat.lt_of_lt_of_le e2 hrb)).trans (e3 j hj)⟩
  have HPL : Hid (∀ W, TS w b bl br op W → Calls Tryz.prog 101 #[.pointer (some ⟨bl, 0, none⟩), .int .i64 (k : Nat)] W fun e w' => e = .returned (.string (bstr (partOf l k))) ∧ TS w b bl br op w') := Lib.hid fun W hW =>
    (part_any l k W rb bl hL (hlv W hW.2.2.2) (Nat.le_trans hrb hW.2.2.2.size) (IsX.grown (below_grown hW.2.2.2 _) l bl h3) (by omega) (by omega)).mono fun e w' ⟨h, hb⟩ => ⟨h, hW.keep hblt hb⟩
  have HPR : Hid (∀ W, TS w b bl br op W → Calls Tryz.prog 101 #[.pointer (some ⟨br, 0, none⟩), .int .i64 ((k : Int) + 1)] W fun e w' => e = .returned (.string (bstr (partOf r (k + 1)))) ∧ TS w b bl br op w') := Lib.hid fun W hW =>
    (part_any r (k + 1) W rb br hR (hlv W hW.2.2.2) (Nat.le_trans hrb hW.2.2.2.size) (IsX.grown (below_grown hW.2.2.2 _) r br h4) (by omega) (by omega)).mono fun e w' ⟨h, hb⟩ => ⟨h, hW.keep hblt hb⟩
  have hS0 : TS w b bl br op w := ⟨c5, c4, c6, Below.refl _ _⟩
  generalize partOf l k = p at *
  generalize partOf r (k + 1) = q at *
  have z1 : ¬ 9223372036854775807 < p.length + 1 := by omega
  have z2 : ¬ 9223372036854775807 < p.length + 1 + op.length := by omega
  have z3 : ¬ 9223372036854775807 < p.length + 1 + op.length + 1 := by omega
  have z4 : ¬ 9223372036854775807 < p.length + 1 + op.length + 1 + q.length := by omega
  have z5 : ¬ 9223372036854775807 < p.length + (op.length + 1) := by omega
  have hkw : IntKind.i64.wrap ((k : Int) + 1) = (k : Int) + 1 := by rw [IntKind.wrap_i64]; omega
  clear hlv hL hR hl h2 h3 h4 hpl hpr hh hk hp
  go_enter Tryz.func70, Tryz.ntmps70
  go_wp2_with fail
  refine HH.out.mono ?_
  rintro e w ⟨rfl, rfl⟩
  go_wp2_with fail
  go_region_held3 (fun w1 => w1.cell? ⟨b, 5, none⟩ = some (.pointer (some ⟨bl, 0, none⟩)) ∧ w1.cell? ⟨b, 4, none⟩ = some (.string (bstr op)) ∧ w1.cell? ⟨b, 6, none⟩ = some (.pointer (some ⟨br, 0, none⟩)) ∧ Below w.heap.size w w1)
    (first
      | exact hS0
      | exact TS.drew (by assumption)
      | assumption)
    (first
      | (go_at_call 101; (with_reducible refine (HPL.out _ ?_).mono ?_); (next => (first | assumption | exact hS0)); (rintro e w9 ⟨rfl, hS9⟩))
      | ((try rw [hkw]); go_at_call 101; (with_reducible refine (HPR.out _ ?_).mono ?_); (next => (first | assumption | exact hS0)); (rintro e w9 ⟨rfl, hS9⟩)))
  all_goals
    go_wp2_with fail
    go_ret
    have hst : bstr p ++ { data := #[32] } ++ bstr op ++ { data := #[32] } ++ bstr q = bstr (p ++ 32 :: (op ++ 32 :: q)) := by
      rw [show ({ data := #[32] } : ByteArray) = bstr [32] from rfl]
      simp only [bstr_append, List.append_assoc]
      rfl
    exact ⟨by rw [← hst]; rfl, hS9.2.2.2⟩
theorem Text_x : ∀ x : X, Ex.Fine Num.numOf Num.dec x → TextC x
  | .num a n, h => Text_num a n (Num.numOf_lt h.2.2)
  | .name a s, _ => Text_name a s
  | .bin a op l r, h => Text_bin a op l r h.1 (Text_x l h.2.1) (Text_x r h.2.2)
end Go.Proofs.YtlpkebngehmimaaGreatDoor
end
section
/- errors.As and api.Tell at an error that is an *api.At. -/
namespace Go.Proofs.YtlpkebngehmimaaGreatDoor
open Go.RowKit Go.Extern.Stop Go.Stop Go.Extern
set_option linter.unusedVariables false
set_option linter.unusedSimpArgs false
namespace ErrAsAt
theorem typeOfA (v : Value) (w : World) : (ReflectliteType.typeOf #[.iface 109 v]).run Tryz.prog w = .ok (.iface 153 (.agg #[hdl 109])) w := by kernel_rfl
theorem assignableA (w : World) : (ReflectliteType.relation "AssignableTo" ReflectliteType.assignableTo #[.agg #[hdl 109], .iface 153 (.agg #[hdl 35])]).run Tryz.prog w = .ok (.bool false) w := by kernel_rfl
theorem assertAs (p : Option Addr) (w : World) : (Instr.typeAssert (.iface 109 (.pointer p)) 27 158 true).run Tryz.prog w = .ok (.tuple #[.nilIface, .bool false]) w := run_typeAssert_lacksB Tryz.underlying158 (by kernel_rfl) (by kernel_rfl) _ _ w
theorem assertUn (p : Option Addr) (w : World) : (Instr.typeAssert (.iface 109 (.pointer p)) 27 161 true).run Tryz.prog w = .ok (.tuple #[.iface 109 (.pointer p), .bool true]) w := by kernel_rfl
theorem mUnwrap (p : Option Addr) (w : World) : (Go.method 328 109 (.pointer p) "Unwrap").run Tryz.prog w = .ok (143, .pointer p) w := by kernel_rfl
end ErrAsAt
theorem Unwrap_any (g : Nat) (n : Int) (w : World) (h : w.cell? ⟨g, 0, none⟩ = some (.int .i64 n)) : Calls Tryz.prog 143 #[.pointer (some ⟨g, 0, none⟩)] w fun e w' => e = .returned (.iface 35 (.int .i64 n)) ∧ w' = w := by
  go_enter Tryz.func143, Tryz.ntmps143
  go_wp2
  go_ret
  exact ⟨rfl, rfl⟩
set_option maxRecDepth 100000 in
set_option maxHeartbeats 4000000 in
theorem as_at (g : Nat) (pl n : Int) (t : Addr) (old : Value) (w : World) (hg : ErrType w) (hrow : RowAt w g 0 111 [.int .i64 n, .int .i64 pl]) (ht0 : w.cell? t = some old) (hf0 : w.frozen? t = false) :
    Calls Tryz.prog 29 #[.iface 109 (.pointer (some ⟨g, 0, none⟩)), .iface 66 (.pointer (some t))] w fun ev w' => ev = .returned (.bool true) ∧ w' = ((asW w t).alloc (.cells #[.int .i64 n] 35)).setCell t (.int .i64 n) := by
  have hV := @run_callFunc_extern Tryz.prog 51 _ (fun args => ReflectliteValue.unpack (args.getD 0 (.tuple #[]))) Tryz.func51 (by kernel_rfl) (by kernel_rfl) (by kernel_rfl) (by kernel_rfl)
  have hT := @run_callFunc_extern Tryz.prog 52 _ (ReflectliteValue.methodAny (ReflectliteValue.valueError "reflectlite.Value.Type" 0) (fun t _ _ _ => ReflectliteType.toType t)) Tryz.func52 (by kernel_rfl) (by kernel_rfl) (by kernel_rfl) (by kernel_rfl)
  have hN := @run_callFunc_extern Tryz.prog 53 _ (ReflectliteValue.method (ReflectliteValue.valueError "reflectlite.Value.IsNil" 0) ReflectliteValue.isNil) Tryz.func53 (by kernel_rfl) (by kernel_rfl) (by kernel_rfl) (by kernel_rfl)
  have hK := @run_callFunc_extern Tryz.prog 137 _ (ReflectliteType.abiMethod fun t => do pure (.int .u8 (← Rtype.kind t))) Tryz.func137 (by kernel_rfl) (by kernel_rfl) (by kernel_rfl) (by kernel_rfl)
  have hE := @run_callFunc_extern Tryz.prog 150 _ (ReflectliteType.method ReflectliteType.elem) Tryz.func150 (by kernel_rfl) (by kernel_rfl) (by kernel_rfl) (by kernel_rfl)
  have hI := @run_callFunc_extern Tryz.prog 151 _ (ReflectliteType.relation "Implements" ReflectliteType.implements_) Tryz.func151 (by kernel_rfl) (by kernel_rfl) (by kernel_rfl) (by kernel_rfl)
  have hTO := @run_callFunc_extern Tryz.prog 81 _ ReflectliteType.typeOf Tryz.func81 (by kernel_rfl) (by kernel_rfl) (by kernel_rfl) (by kernel_rfl)
  have hA := @run_callFunc_extern Tryz.prog 148 _ (ReflectliteType.relation "AssignableTo" ReflectliteType.assignableTo) Tryz.func148 (by kernel_rfl) (by kernel_rfl) (by kernel_rfl) (by kernel_rfl)
  have hVE := @run_callFunc_extern Tryz.prog 82 _ (ReflectliteValue.method (ReflectliteValue.valueError "reflectlite.Value.Elem" 0) ReflectliteValue.elem) Tryz.func82 (by kernel_rfl) (by kernel_rfl) (by kernel_rfl) (by kernel_rfl)
  have hVS := @run_callFunc_extern Tryz.prog 83 _ ReflectliteValue.set Tryz.func83 (by kernel_rfl) (by kernel_rfl) (by kernel_rfl) (by kernel_rfl)
  have tO := ErrAs.typeOfE
  have tA := ErrAsAt.typeOfA
  have aA := ErrAsAt.assignableA
  have xA := ErrAsAt.assertAs (some ⟨g, 0, none⟩)
  have xU := ErrAsAt.assertUn (some ⟨g, 0, none⟩)
  have mU := ErrAsAt.mUnwrap (some ⟨g, 0, none⟩)
  have hcell : (asW w t).cell? ⟨g, 0, none⟩ = some (.int .i64 n) := by
    have hb := (((Below.refl w.heap.size w).alloc (Nat.le_refl _) (.cells #[.pointer (some t)] 66)).alloc (by simp) (.cells #[hdl 66, .pointer (some ⟨w.heap.size, 0, none⟩), .int .u64 150] 116)).alloc (by simp; omega) (.cells #[hdl 66, .pointer (some ⟨w.heap.size, 0, none⟩), .int .u64 150] 116)
    rw [hb.cell (p := ⟨g, 0, none⟩) hrow.lt]
    exact hrow.cell0 0 (by simp)
  have mA := ErrAs.mAssignableTo
  have aE := ErrAs.assignableE
  have vE := ErrAs.valueOfE
  have f6 := ErrAs.valueOfP
  have f7 := ErrAs.typeP
  have mK := ErrAs.mKind
  have mE := ErrAs.mElem
  have mI := ErrAs.mImplements
  have kP := ErrAs.kindP
  have kE := ErrAs.kindE
  have eP := ErrAs.elemP
  have iE := ErrAs.implementsE
  have hlt : 0 < w.heap.size := hg.lt
  have htl : t.block < w.heap.size := by
    rcases Nat.lt_or_ge t.block w.heap.size with h | h
    · exact h
    · simp [World.cell?, Array.getElem?_eq_none h] at ht0
  have n8 := ErrAs.isNilP ⟨w.heap.size, 0, none⟩ t ((w.alloc (.cells #[.pointer (some t)] 66)).alloc (.cells #[hdl 66, .pointer (some ⟨w.heap.size, 0, none⟩), .int .u64 150] 116)) (by simp)
  have hg2 : ((w.alloc (.cells #[.pointer (some t)] 66)).alloc (.cells #[hdl 66, .pointer (some ⟨w.heap.size, 0, none⟩), .int .u64 150] 116)).cell? ⟨0, 0, none⟩ = some (.iface 153 (.agg #[hdl 27])) := by
    rw [World.cell?_alloc_lt _ _ ⟨0, 0, none⟩ (by simp <;> omega), World.cell?_alloc_lt _ _ ⟨0, 0, none⟩ hlt]; exact hg
  have el := ErrAs.elemV ⟨w.heap.size, 0, none⟩ t (asW w t) (by rw [World.cell?_alloc_lt _ _ ⟨w.heap.size, 0, none⟩ (by simp; omega)]; simp)
  have st := ErrAs.setE t ⟨w.heap.size + 1 + 1 + 1, 0, none⟩ n old ((asW w t).alloc (.cells #[.int .i64 n] 35))
    (by rw [World.cell?_alloc_at _ _ _ _ (by simp)]; rfl)
    (by rw [World.cell?_alloc_lt _ _ t (by simp; omega), World.cell?_alloc_lt _ _ t (by simp; omega), World.cell?_alloc_lt _ _ t (by simp; omega), World.cell?_alloc_lt _ _ t htl]; exact ht0)
    (by rw [World.frozen?_alloc_old _ _ t (by simp; omega), World.frozen?_alloc_old _ _ t (by simp; omega), World.frozen?_alloc_old _ _ t (by simp; omega), World.frozen?_alloc_old _ _ t (Nat.ne_of_lt htl)]; exact hf0)
  go_enter Tryz.func29, Tryz.ntmps29
  go_wp2
  refine wp_loop_rounds 2 ?_
  rw [rounds_succ]
  go_wp2_with (go_at_call 143; refine (Unwrap_any g n _ hcell).mono ?_; rintro e w' ⟨rfl, rfl⟩)
  rw [rounds_succ]
  go_wp2
  go_ret
  exact ⟨rfl, rfl⟩
set_option maxRecDepth 100000 in
theorem Tell_at (g : Nat) (n pl : Int) (w : World) (hg : ErrType w) (hrow : RowAt w g 0 111 [.int .i64 n, .int .i64 pl]) : Calls Tryz.prog 11 #[.iface 109 (.pointer (some ⟨g, 0, none⟩))] w fun e w' => e = .returned (.int .i64 n) ∧ Below w.heap.size w w' := by
  have has := as_at g pl n ⟨w.heap.size, 0, none⟩ (.int .i64 0) (w.alloc (.cells #[.int .i64 0] 35)) (hg.below ((Below.refl _ w).alloc (Nat.le_refl _) _) hg.lt) (hrow.alloc _) (by simp) (by simp)
  have hb := asW_below (w.alloc (.cells #[.int .i64 0] 35)) ⟨w.heap.size, 0, none⟩ n
  have hb2 := (((Below.refl _ w).alloc (Nat.le_refl _) (.cells #[.int .i64 0] 35)).trans (hb.mono (by simp))).setCell (p := ⟨w.heap.size, 0, none⟩) (Nat.le_refl _) (.int .i64 n)
  have hc : (((asW (w.alloc (.cells #[.int .i64 0] 35)) ⟨w.heap.size, 0, none⟩).alloc (.cells #[.int .i64 n] 35)).setCell ⟨w.heap.size, 0, none⟩ (.int .i64 n)).cell? ⟨w.heap.size, 0, none⟩ = some (.int .i64 n) := by
    refine World.cell?_setCell_same' _ _ _ ?_
    rw [hb.cell (p := ⟨w.heap.size, 0, none⟩) (by simp)]
    simp
  generalize ((asW (w.alloc (.cells #[.int .i64 0] 35)) ⟨w.heap.size, 0, none⟩).alloc (.cells #[.int .i64 n] 35)).setCell ⟨w.heap.size, 0, none⟩ (.int .i64 n) = w9 at *
  have HAS := Lib.hid has; clear has hb
  go_enter Tryz.func11, Tryz.ntmps11
  go_wp2_with fail
  refine HAS.out.mono ?_
  rintro e w1 ⟨rfl, rfl⟩
  go_wp2_with fail
  go_ret
  exact ⟨rfl, hb2⟩
end Go.Proofs.YtlpkebngehmimaaGreatDoor
end
section
/- The law ExprAgain: its facts. -/
namespace Go.Proofs.YtlpkebngehmimaaGreatDoor
open Go.RowKit
set_option linter.unusedVariables false
set_option linter.unusedSimpArgs false
open Rd
open Ex (X levels)
/-- what is read of a text: all of it -/
theorem reads_total (s : List UInt8) (hs : s.length ≤ 3000) : Lex.lexA s 0 = none ∨ ∃ T o, Lex.lexA s 0 = some T ∧ Ex.Par Num.numOf s.length (.lev 0) 0 T o := by
  cases h : Lex.lexA s 0 with
  | none => exact .inl rfl
  | some T =>
    obtain ⟨o, ho⟩ := Ex.total (num := Num.numOf) (E := s.length) T.length T 0 (Nat.le_refl _) (fun t ht => (Ex.words s.length s 0 T (Nat.le_refl _) h t ht).1) (by omega) 0 (by omega)
    exact .inr ⟨T, o, rfl, ho⟩
theorem long_any (l : List UInt8) (w : World) : Calls Tryz.prog 7 #[.string (bstr l)] w fun e w' => e = .returned (.bool (decide (900 < l.length))) ∧ w = w' := by
  by_cases h : 900 < l.length
  · have d1 : decide ((900 : Int) < (l.length : Int)) = true := decide_eq_true (by omega)
    rw [decide_eq_true h]
    go_enter Tryz.func7, Tryz.ntmps7
    go_wp2_with fail
    go_ret
    exact ⟨rfl, rfl⟩
  · have d1 : decide ((900 : Int) < (l.length : Int)) = false := decide_eq_false (by omega)
    rw [decide_eq_false h]
    go_enter Tryz.func7, Tryz.ntmps7
    go_wp2_with fail
    go_ret
    exact ⟨rfl, rfl⟩
/-- an error that is told -/
theorem Tell_err {w : World} {v : Value} {n : Nat} (h : ErrIs w v n) (hg : ErrType w) : Calls Tryz.prog 11 #[v] w fun e w' => e = .returned (.int .i64 (n : Nat)) ∧ Below w.heap.size w w' := by
  rcases h with rfl | ⟨g, p, rfl, hrow⟩
  · exact Tell_errno n w hg
  · exact (Tell_at g n p w hg hrow).mono fun e w' h => ⟨h.1, h.2⟩
/-- how big: nodes, and what is written -/
def nodes : X → Nat
  | .bin _ _ l r => nodes l + nodes r + 1
  | _ => 1
theorem nodes_read {num : Ex.NumOf} {E : Nat} {c : Ex.Cat} {d : Nat} {T : List Rd.Tok} {o : Ex.Out} (h : Ex.Par num E c d T o) : ∀ x R, o = .ok x R → nodes x + R.length ≤ T.length + (match c with | .loop _ y => nodes y | _ => 0) := by
  induction h with
  | top _ ih => intro x R e; exact ih x R e
  | lev _ _ _ ih1 ih2 =>
    intro x R e
    have h1 := ih1 _ _ rfl
    have h2 := ih2 x R e
    simp only at h1 h2 ⊢
    omega
  | levBad => intro x R e; cases e
  | done _ => intro x R e; cases e; simp only; omega
  | more _ _ _ ih1 ih2 =>
    intro x R e
    have h1 := ih1 _ _ rfl
    have h2 := ih2 x R e
    simp only [nodes, List.length_cons] at h1 h2 ⊢
    omega
  | moreBad => intro x R e; cases e
  | paren _ _ _ _ ih =>
    intro x R e
    cases e
    have h1 := ih _ _ rfl
    simp only [List.length_cons] at h1 ⊢
    omega
  | parenNone => intro x R e; cases e
  | parenBad => intro x R e; cases e
  | deep => intro x R e; cases e
  | name => intro x R e; cases e; simp only [nodes, List.length_cons]; omega
  | nameLong => intro x R e; cases e
  | none => intro x R e; cases e
  | mark => intro x R e; cases e
  | num => intro x R e; cases e; simp only [nodes, List.length_cons]; omega
  | numBad => intro x R e; cases e
theorem level_short (k : Nat) : ∀ m ∈ levels k, m.length ≤ 2 := by
  intro m hm
  exact (Lex.marks_ne m (Ex.level_mark k m hm).1).2
theorem wdt_le (n : Nat) : Num.wdt n ≤ 24 := by
  unfold Num.wdt
  cases h : (List.range 25).find? (fun j => decide (1 ≤ j) && decide (n < 10 ^ j)) with
  | none => simp
  | some j =>
    have := List.mem_of_find?_eq_some h
    rw [List.mem_range] at this
    simp only [Option.getD_some]; omega
theorem pr_length : ∀ x : X, Ex.Fine Num.numOf Num.dec x → (Ex.pr Num.dec x).length ≤ 30 * nodes x
  | .num _ n, h => by
    have := wdt_le n
    show (Num.dec n).length ≤ _
    rw [Num.dec, Digits.ds_length]
    simp only [nodes]; omega
  | .name _ s, h => by
    have := h.2.1
    show s.length ≤ _
    simp only [nodes]; omega
  | .bin _ op l r, h => by
    have h1 := pr_length l h.2.1
    have h2 := pr_length r h.2.2
    have h3 := level_short _ op (Ex.level_of op h.1)
    have pl : ∀ (y : X) k, (partOf y k).length ≤ (Ex.pr Num.dec y).length + 2 := by
      intro y k
      unfold partOf
      split
      · simp
      · omega
    have e1 := pl l (Ex.opLevel op)
    have e2 := pl r (Ex.opLevel op + 1)
    rw [pr_bin]
    simp only [List.length_append, List.length_cons, nodes]
    omega
theorem toks_le : ∀ (n : Nat) (l : List UInt8) (i : Nat) (T : List Rd.Tok), l.length ≤ n → Lex.lexA l i = some T → T.length ≤ l.length ∧ ∀ t ∈ T, t.1.length ≤ l.length := by
  intro n
  induction n with
  | zero =>
    intro l i T h hT
    obtain rfl := List.eq_nil_of_length_eq_zero (Nat.le_zero.1 h)
    rw [Lex.lexA_nil] at hT
    cases hT
    exact ⟨Nat.le_refl _, fun t ht => by cases ht⟩
  | succ n ih =>
    intro l i T h hT
    cases l with
    | nil => rw [Lex.lexA_nil] at hT; cases hT; exact ⟨Nat.le_refl _, fun t ht => by cases ht⟩
    | cons c l =>
      rw [List.length_cons] at h
      by_cases h1 : c = 32 ∨ c = 10 ∨ c = 9
      · rw [Lex.lexA_blank c l i h1] at hT
        have := ih l _ T (by omega) hT
        exact ⟨by rw [List.length_cons]; omega, fun t ht => by have := this.2 t ht; rw [List.length_cons]; omega⟩
      · by_cases h2 : c = 35
        · subst h2
          rw [Lex.lexA_note] at hT
          have hp := Lex.note_pos l
          have := ih _ _ T (by rw [List.length_drop, List.length_cons]; omega) hT
          rw [List.length_drop] at this
          exact ⟨by omega, fun t ht => by have := this.2 t ht; omega⟩
        · by_cases h3 : Lex.next (c :: l) = 0
          · rw [Lex.lexA_bad c l i h1 h2 h3] at hT; cases hT
          · rw [Lex.lexA_tok c l i h1 h2 h3, Option.map_eq_some_iff] at hT
            obtain ⟨T', hT', rfl⟩ := hT
            have := ih _ _ T' (by rw [List.length_drop, List.length_cons]; omega) hT'
            rw [List.length_drop] at this
            refine ⟨by rw [List.length_cons, List.length_cons]; rw [List.length_cons] at this; omega, fun t ht => ?_⟩
            rcases List.mem_cons.1 ht with rfl | ht
            · simp only [List.length_take]; omega
            · have := this.2 t ht; omega
end Go.Proofs.YtlpkebngehmimaaGreatDoor
end
section
/- The tables in a later world; tokens of a text. -/
namespace Go.Proofs.YtlpkebngehmimaaGreatDoor
open Go.RowKit
set_option linter.unusedVariables false
set_option linter.unusedSimpArgs false
open Rd
open Ex (X levels)
theorem Same.fine {num : Ex.NumOf} {dec : Ex.Dec} {x y : X} (h : Ex.Same x y) (hx : Ex.Fine num dec x) : Ex.Fine num dec y := by
  induction h with
  | num => exact hx
  | name => exact hx
  | bin a b op _ _ ih1 ih2 => exact ⟨hx.1, ih1 hx.2.1, ih2 hx.2.2⟩
theorem toks_of {s : List UInt8} {L : List (List UInt8)} (h : Ex.texts s 0 = some L) : ∃ T, Lex.lexA s 0 = some T ∧ T.map Prod.fst = L := by
  unfold Ex.texts at h
  rw [Option.map_eq_some_iff] at h
  exact h
theorem few_toks {s : List UInt8} {T : List Rd.Tok} (hs : s.length ≤ 3000) (h : Lex.lexA s 0 = some T) : ∀ t ∈ T, t.1.length ≤ 100000 := fun t ht => by
  have := (toks_le s.length s 0 T (Nat.le_refl _) h).2 t ht
  omega
theorem env_up {w w' : World} {B : Nat} (h : Env w B) (hb : Below w.heap.size w w') (hB : B ≤ w.heap.size) : Env w' B := by
  have key : ∀ (p : Addr), p.block < B → w'.cell? p = w.cell? p := fun p hlt => hb.cell (p := p) (Nat.lt_of_lt_of_le hlt hB)
  refine ⟨⟨h.lv.1, fun k hk => ?_⟩, (key ⟨_, 0, none⟩ h.eb).trans h.er, h.eb⟩
  obtain ⟨gk, ck, h1, h2, h3⟩ := h.lv.2 k hk
  exact ⟨gk, ck, (key ⟨_, k, none⟩ h.lv.1).trans h1, h2, fun j hj => (key (gk.add j) (by rw [Addr.add_block]; exact h2)).trans (h3 j hj)⟩
theorem env_to {w : World} {B B' : Nat} (h : Env w B) (hB : B ≤ B') : Env w B' := by
  refine ⟨⟨Nat.lt_of_lt_of_le h.lv.1 hB, fun k hk => ?_⟩, h.er, Nat.lt_of_lt_of_le h.eb hB⟩
  obtain ⟨gk, ck, h1, h2, h3⟩ := h.lv.2 k hk
  exact ⟨gk, ck, h1, Nat.lt_of_lt_of_le h2 hB, h3⟩
/-- the tables, in a later world -/
structure Base (w : World) : Prop where
  env : Env w w.heap.size
  mks : MarksAt w
theorem Base.up {w w' : World} (h : Base w) (hb : Below w.heap.size w w') : Base w' := ⟨env_to (env_up h.env hb (Nat.le_refl _)) hb.size, h.mks.below hb (Nat.le_refl _)⟩
end Go.Proofs.YtlpkebngehmimaaGreatDoor
end
section
/- lex.Name of any text. -/
namespace Go.Proofs.YtlpkebngehmimaaGreatDoor
open Go.RowKit
set_option linter.unusedVariables false
set_option linter.unusedSimpArgs false
open Rd
theorem Name_none (w : World) : Calls Tryz.prog 46 #[.string (bstr [])] w fun e w' => e = .returned (.bool false) ∧ w = w' := by
  go_enter Tryz.func46, Tryz.ntmps46
  go_wp2_with fail
  go_ret
  exact ⟨rfl, rfl⟩
def isName : List UInt8 → Bool
  | [] => false
  | c :: _ => Lex.letter c.toNat
theorem Name_all (s : List UInt8) (w : World) : Calls Tryz.prog 46 #[.string (bstr s)] w fun e w' => e = .returned (.bool (isName s)) ∧ w = w' := by
  cases s with
  | nil => exact Name_none w
  | cons c r => exact Name_any c r w
end Go.Proofs.YtlpkebngehmimaaGreatDoor
end
