/- A map of the call's own from names to ints, as a set: 1 at what is in it. No program in sight. -/
import Derived.Maps.OwnOps
import Derived.WideKeyEntry
import Derived.Maps.OwnSet
import Derived.StringKeys
import Derived.Test.YtlpkebngehmimaaGreatDoorMgTypesMore37
import Derived.Test.YtlpkebngehmimaaGreatDoorMgTypesMore1
import Derived.Test.YtlpkebngehmimaaGreatDoorMgTypesMore6
section
/- Contract of types.checker.asks. -/
namespace Go.Proofs.YtlpkebngehmimaaGreatDoor
open Go.RowKit
set_option linter.unusedVariables false
set_option linter.unusedSimpArgs false
open Rd
/-- the checker's box and what is seen so far -/
structure CkS (w : World) (cb tb mb : Nat) (sa : Option Addr) (sc : Nat) (seen : List Tm.Wd) : Prop where
  box : RowAt w cb 0 74 [.map (some tb), .map (some mb), .slice sa seen.length sc]
  own : Owns w 0 9 1 sa seen.length sc (wdVals seen)
theorem CkS.up {w w' : World} {cb tb mb : Nat} {sa : Option Addr} {sc : Nat} {seen : List Tm.Wd} (h : CkS w cb tb mb sa sc seen) (hb : Below w.heap.size w w') : CkS w' cb tb mb sa sc seen := ⟨h.box.below hb h.box.lt, h.own.below hb (Nat.le_refl _)⟩
theorem asks_next {seen : List Tm.Wd} {N : List Nm} {k : Nat} {t : Nm} (h : Tm.asks seen ((N.take k).map fun t => t.2.2) = true) (hk : N[k]? = some t) (hm : t.2.2 ∈ seen) : Tm.asks seen ((N.take (k + 1)).map fun t => t.2.2) = true := by
  unfold Tm.asks at *
  rw [List.take_add_one, hk, List.map_append, List.all_append, h]
  simp [hm]
theorem asks_bad {seen : List Tm.Wd} {N : List Nm} {k : Nat} {t : Nm} (hk : N[k]? = some t) (hm : t.2.2 ∉ seen) : Tm.asks seen (N.map fun t => t.2.2) = false := by
  unfold Tm.asks
  rw [List.all_eq_false]
  refine ⟨t.2.2, List.mem_map.2 ⟨t, List.mem_of_getElem? hk, rfl⟩, ?_⟩
  simp [hm]
set_option maxRecDepth 100000 in
set_option maxHeartbeats 4000000 in
theorem asks_any (V w : World) (rb cb tb mb sc : Nat) (sa : Option Addr) (seen : List Tm.Wd) (p8 : Option Addr) (x : Option Ex.X) (hx : Tm.CntV V rb x (.pointer p8)) (hb : Below V.heap.size V w) (hs : CkS w cb tb mb sa sc seen) (hl : (Tm.namesO x).length ≤ 100000) (hsl : seen.length ≤ 100000) :
    Calls Tryz.prog 55 #[.pointer (some ⟨cb, 0, none⟩), .pointer p8] w fun e w' => Below w.heap.size w w' ∧ TOut w.heap.size (if Tm.asks seen (Tm.namesO x) then none else some 5) e w' := by
  have hN : Calls Tryz.prog 84 #[.pointer p8] w fun e w' => NamesOut V rb w.heap.size (Tm.namesO x) e w' ∧ Below w.heap.size w w' := by
    cases x with
    | none =>
      have : p8 = none := by have h9 : (Value.pointer p8) = .pointer none := hx; injection h9
      subst this
      exact (names_nil w).mono fun e w' ⟨h1, h2⟩ => by subst h1 h2; exact ⟨⟨none, 0, [], rfl, fun W _ => Owns.nil _ _ _ _, fun t ht => by (cases ht), rfl⟩, Below.refl _ _⟩
    | some y =>
      obtain ⟨b, h1, h2⟩ := hx
      injection h1 with h1
      subst h1
      exact names_x y V w rb b w.heap.size h2 hb hl (Nat.le_refl _)
  unfold NamesOut at hN
  generalize Tm.namesO x = ns at *
  obtain ⟨oo, hoo⟩ : ∃ oo : Option Nat, oo = (if Tm.asks seen ns then none else some 5) := ⟨_, rfl⟩
  rw [← hoo]
  have HOO := Lib.hid hoo
  clear hoo
  have HN := Lib.hid hN; have HB := Lib.hid hb; have HS := Lib.hid hs
  clear hN hx hb hs
  go_enter Tryz.func55, Tryz.ntmps55
  go_wp2_with fail
  refine HN.out.mono ?_
  rintro e w1 ⟨⟨ga, cap, N, rfl, ho, hx, hnm⟩, hb1⟩
  obtain ⟨m, hm⟩ : ∃ m, m = N.length := ⟨_, rfl⟩
  have hm2 : m ≤ 100000 := by rw [hm, ← List.length_map (fun t : Nm => t.2.2), hnm]; exact hl
  have hcap : m ≤ cap := by rw [hm]; exact own_cap (ho _ (Below.refl _ _))
  rw [← hm]
  have HO := Lib.hid ho; have HX := Lib.hid hx; have HNM := Lib.hid hnm; have HB1 := Lib.hid hb1; have HM := Lib.hid hm
  clear ho hx hnm hb1 hm HN hl
  go_wp2_with fail
  go_loopw [9] (fun v9 wr => ∃ k : Nat, v9 = .int .i64 k ∧ k ≤ m ∧ Hid (Tm.asks seen ((N.take k).map fun t => t.2.2) = true) ∧ Hid (Below w1.heap.size w1 wr)) (fun v9 _ => m - (intOf v9).toNat)
  case atStart => exact ⟨0, rfl, Nat.zero_le _, Lib.hid (by simp [Tm.asks]), Lib.hid (Below.refl _ _)⟩
  case round =>
    obtain ⟨k, rfl, hk, HQ, HBW⟩ := hrel
    by_cases hlt : k < m
    · have hki : (k : Int) < (m : Int) := by omega
      have q1 : decide ((k : Int) < (m : Int)) = true := decide_eq_true hki
      have q2 : decide (k < m) = true := decide_eq_true hlt
      have HLT := Lib.hid hlt
      have how := HO.out wr HBW.out
      obtain ⟨y, rfl⟩ : ∃ y, ga = some y := by
        cases ga with
        | none => have := how.of_none.1; rw [← HM.out] at this; omega
        | some y => exact ⟨y, rfl⟩
      obtain ⟨gb, rfl⟩ : ∃ gb, y = ⟨gb, 0, none⟩ := ⟨y.block, how.row.1⟩
      obtain ⟨t, ht⟩ : ∃ t, N[k]? = some t := ⟨N[k]'(by rw [← HM.out]; exact hlt), List.getElem?_eq_getElem _⟩
      have hcell : wr.cell? ⟨gb, k, none⟩ = some (.pointer (some ⟨t.1, 0, none⟩)) := by
        rw [how.row.2.2.2.2.cell0 k (by simp [nmVals]; rw [← HM.out]; exact hlt)]
        rw [List.getElem?_eq_getElem (by rw [← HM.out]; exact hlt)] at ht
        injection ht with ht
        simp only [nmVals, List.getElem_map, ht]
      have hbw : Below w.heap.size w wr := HB1.out.trans (HBW.out.mono HB1.out.size)
      have hxt := HX.out t (List.mem_of_getElem? ht)
      have hrow := (hxt.2.below HB.out hxt.2.lt).below hbw (hxt.2.below HB.out hxt.2.lt).lt
      have n1 := hrow.cell0 1 (by simp); have n3 := hrow.cell0 3 (by simp)
      have hsw := HS.out.up hbw
      have b2 := hsw.box.cell0 2 (by simp)
      simp only [List.getElem_cons_zero, List.getElem_cons_succ] at n1 n3 b2
      have HT := Lib.hid ht; have HBR := Lib.hid hbw
      have HC := Lib.hid (fun q => ContainsW sa seen.length sc seen t.2.2 (wr.drewN q) rfl hsl (hsw.own.drewN q).readsW)
      obtain ⟨nm, hnm⟩ : ∃ nm, nm = t.2.2 := ⟨_, rfl⟩
      obtain ⟨at_, hat⟩ : ∃ at_, at_ = t.2.1 := ⟨_, rfl⟩
      rw [← hnm] at n3 HC
      rw [← hat] at n1
      have HNA := Lib.hid hnm
      clear how ht hxt hrow hsw hbw hlt hnm hat
      go_wp2_with fail
      go_quiet (first | (go_at_call 85; with_reducible exact Calls.quiet_of_same (turn (HC.out _))))
      obtain ⟨wq, hwq⟩ : ∃ wq, wq = wr.drewN nq := ⟨_, rfl⟩
      have n1' : wq.cell? ⟨t.1, 1, none⟩ = some (.int .i64 (at_ : Nat)) := by rw [hwq]; exact n1
      have HBQ := Lib.hid (show Below w.heap.size w wq by rw [hwq]; exact ⟨HBR.out.os, HBR.out.tape, HBR.out.output, HBR.out.size, HBR.out.block⟩)
      have HBQ1 := Lib.hid (show Below w1.heap.size w1 wq by rw [hwq]; exact ⟨HBW.out.os, HBW.out.tape, HBW.out.output, HBW.out.size, HBW.out.block⟩)
      rw [← hwq]
      clear hwq n1 n3 b2 HC
      obtain ⟨bb, hbb⟩ : ∃ bb, bb = decide (nm ∈ seen) := ⟨_, rfl⟩
      rw [← hbb]
      cases bb with
      | true =>
        have hin : nm ∈ seen := of_decide_eq_true hbb.symm
        have HQ2 := Lib.hid (asks_next HQ.out HT.out (by rw [← HNA.out]; exact hin))
        clear hin hbb
        go_wp2_with fail
        go_roundw
        case rel => exact ⟨k + 1, by go_num, by have := HLT.out; omega, HQ2, HBQ1⟩
        case measure => simp [intOf]; have := HLT.out; omega
      | false =>
        have hin : nm ∉ seen := of_decide_eq_false hbb.symm
        have HE := Lib.hid (show Tm.asks seen ns = false by rw [← HNM.out]; exact asks_bad HT.out (by rw [← HNA.out]; exact hin))
        clear hin hbb
        go_wp2_with fail
        refine (fail_any 5 at_ wq).mono ?_
        rintro e wF ⟨rfl, g1, g2⟩
        have HB9 := Lib.hid (HBQ.out.trans (g2.mono HBQ.out.size))
        have G1 := Lib.hid g1
        clear g1 g2
        go_wp2_with fail
        refine ⟨rfl, HB9.out, ?_⟩
        rw [HOO.out, HE.out]
        exact ⟨_, _, rfl, G1.out, HBQ.out.size⟩
    · obtain rfl : k = m := by omega
      have hd : decide ((k : Int) < (k : Int)) = false := by simp
      have hd2 : decide (k < k) = false := by simp
      have HE := Lib.hid (show Tm.asks seen ns = true by rw [← HNM.out]; have := HQ.out; rwa [HM.out, List.take_length] at this)
      have HBR := Lib.hid (HB1.out.trans (HBW.out.mono HB1.out.size))
      go_wp2_with fail
      go_end0
      refine ⟨HBR.out, ?_⟩
      rw [HOO.out, HE.out]
      rfl
end Go.Proofs.YtlpkebngehmimaaGreatDoor
end
section
/- A map of the call's own from ints to ints, as a function of the key. No program in sight. -/
namespace Go.Proofs.YtlpkebngehmimaaGreatDoor
open Go Go.RowKit Go.Maps Go.WideElems Go.ChangeMaps
set_option linter.unusedVariables false
set_option linter.unusedSimpArgs false
/-- a function of the integers that is another at one place -/
def updI (F : Int → Int) (c v : Int) : Int → Int := fun x => if x = c then v else F x
theorem updI_same (F : Int → Int) (c v : Int) : updI F c v c = v := if_pos rfl
theorem updI_other (F : Int → Int) (c x v : Int) (h : x ≠ c) : updI F c v x = F x := if_neg h
/-- block b is a map of the call's own, of at most n entries: at the key c the number F c stands -/
def MapI (P : Program) (k e : TypeId) (w : World) (b n : Nat) (F : Int → Int) : Prop :=
  ∃ D : DataW Unit, w.ownsMap P k (plainElem P e) b n D ∧ IsMap D ∧ ∀ c : Int, D.atKey (.int .i64 c) (.lit (.int .i64 0)) = .lit (.int .i64 (F c))
section
variable {P : Program} {t k e : TypeId} {w : World} {b n : Nat} {F : Int → Int}
theorem i64_key (c : Int) : WideAt.IsKeyLit (.int .i64 c) := by unfold WideAt.IsKeyLit; trivial
theorem MapI.made (w : World) : MapI P k e (w.alloc (.map #[] 0)) w.heap.size 0 (fun _ => 0) :=
  ⟨.map [], World.ownsMap_made _ _ _ _, isMap_empty, fun c => rfl⟩
theorem MapI.kept {w' : World} {row : Option Nat} (h : MapI P k e w b n F) (hg : w.grownBy w' row) (hne : some b ≠ row) : MapI P k e w' b n F := by
  obtain ⟨D, h1, h2⟩ := h
  exact ⟨D, h1.kept hg hne, h2⟩
theorem MapI.drewN (h : MapI P k e w b n F) (m : Nat) : MapI P k e (w.drewN m) b n F := h
theorem MapI.drew (h : MapI P k e w b n F) : MapI P k e w.drew b n F := h
theorem MapI.mono (h : MapI P k e w b n F) {m : Nat} (hm : n ≤ m) : MapI P k e w b m F := by
  obtain ⟨D, h1, h2⟩ := h
  exact ⟨D, h1.mono hm, h2⟩
theorem MapI.lt (h : MapI P k e w b n F) : b < w.heap.size := by obtain ⟨D, h1, _⟩ := h; exact h1.lt
theorem MapI.look (h : MapI P k e w b n F) (ht : P.underlying t = some (.map k e)) (hk : P.underlying k = some (.int .i64)) (he : P.underlying e = some (.int .i64)) (hz : (zeroValue e).run P w = .ok (.int .i64 0) w) (c : Int) (hc : (Lit.int .i64 c).wf = true) :
    (Instr.lookup t (.map (some b)) (.int .i64 c) false).run P w = .ok (.int .i64 (F c)) w := by
  obtain ⟨D, h1, h2, h3⟩ := h
  obtain ⟨v, hrun, hat, _⟩ := h1.lookup_int (int_keyed hk) ht he hz (keyOf_int_mk hk hc)
  rw [h3 c] at hat
  simp only [DataW.lit.injEq, Lit.int.injEq, true_and] at hat
  rw [hrun, hat]
theorem MapI.store (h : MapI P k e w b n F) (ht : P.underlying t = some (.map k e)) (hk : P.underlying k = some (.int .i64)) (he : P.underlying e = some (.int .i64)) (hn : n < maxLen) (c v : Int) (hc : (Lit.int .i64 c).wf = true) (hv : (Lit.int .i64 v).wf = true) :
    ∃ w', (Instr.mapUpdate t (.map (some b)) (.int .i64 c) (.int .i64 v)).run P w = .ok () w' ∧ MapI P k e w' b (n + 1) (updI F c v) ∧ w.grownBy w' (some b) := by
  obtain ⟨D, h1, h2, h3⟩ := h
  obtain ⟨w', hrun, ho, hg⟩ := h1.update (int_keyed hk) ht hn (keyOf_int_mk hk hc) (plainElem_int he hv)
  refine ⟨w', hrun, ⟨_, ho, h2.put _ _, fun x => ?_⟩, hg⟩
  by_cases hxc : x = c
  · subst hxc
    rw [atKey_put_same h2 (i64_key x), updI_same]
  · rw [atKey_put_other (by intro h; injection h with h4 h5; exact hxc h5), updI_other _ _ _ _ hxc]
    exact h3 x
end
/-- a store, at the operation -/
theorem wpList_storeI {P : Program} (w : World) {ops : Array Oper} {rest : List Oper} {o : Oper} {a : Act} {Q : Exit → Act → World → Prop}
    (hg : o.guard = none) (m x v : Operand) (t : TypeId) (hop : o.op = Op.mapUpdate t m x v) (k e : TypeId) (ht : P.underlying t = some (.map k e)) (hk : P.underlying k = some (.int .i64)) (he : P.underlying e = some (.int .i64))
    (b n : Nat) (F : Int → Int) (hm : a.eval m = .map (some b)) (h : MapI P k e w b n F) (hn : n < maxLen) (c y : Int) (hx : a.eval x = .int .i64 c) (hv : a.eval v = .int .i64 y) (hcw : (Lit.int .i64 c).wf = true) (hyw : (Lit.int .i64 y).wf = true)
    (hK : ∀ w', MapI P k e w' b (n + 1) (updI F c y) → w.grownBy w' (some b) → wpList P ops Q rest (a.put o.dst undef) w') :
    wpList P ops Q (o :: rest) a w := by
  refine wpList_plain hg fun K' hK' => ?_
  obtain ⟨w', hrun, r1, r2⟩ := h.store ht hk he hn c y hcw hyw
  unfold Oper.wp
  simp [execOp, hop, hm, hx, hv, hrun, Result.andThen]
  exact hK' _ _ (hK w' r1 r2)
theorem i64_wf (c : Int) (h0 : -9223372036854775808 ≤ c) (h1 : c ≤ 9223372036854775807) : (Lit.int .i64 c).wf = true := by
  have e1 : IntKind.i64.min = -9223372036854775808 := rfl
  have e2 : IntKind.i64.max = 9223372036854775807 := rfl
  simp [Lit.wf, e1, e2]
  omega
end Go.Proofs.YtlpkebngehmimaaGreatDoor
end
section
/- A map of the call's own from names to ints, as a set: 1 at what is in it. No program in sight. -/
namespace Go.Proofs.YtlpkebngehmimaaGreatDoor
open Go Go.RowKit Go.Maps Go.WideElems Go.ChangeMaps Go.WideMaps
set_option linter.unusedVariables false
set_option linter.unusedSimpArgs false
/-- block b is a map of the call's own, of at most n entries: 1 stands at the names of S -/
def MapN (P : Program) (k e : TypeId) (w : World) (b n : Nat) (S : List (List UInt8)) : Prop :=
  ∃ D : DataW Unit, w.ownsMap P k (plainElem P e) b n D ∧ IsMap D ∧ ∀ s : List UInt8, D.atKey (.string s) (.lit (.int .i64 0)) = .lit (.int .i64 (if S.contains s then 1 else 0))
section
variable {P : Program} {t k e : TypeId} {w : World} {b n : Nat} {S : List (List UInt8)}
theorem str_key (s : List UInt8) : WideAt.IsKeyLit (.string s) := by unfold WideAt.IsKeyLit; trivial
theorem MapN.made (w : World) : MapN P k e (w.alloc (.map #[] 0)) w.heap.size 0 [] :=
  ⟨.map [], World.ownsMap_made _ _ _ _, isMap_empty, fun c => rfl⟩
theorem MapN.kept {w' : World} {row : Option Nat} (h : MapN P k e w b n S) (hg : w.grownBy w' row) (hne : some b ≠ row) : MapN P k e w' b n S := by
  obtain ⟨D, h1, h2⟩ := h
  exact ⟨D, h1.kept hg hne, h2⟩
theorem MapN.keep {w' : World} (h : MapN P k e w b n S) (hh : w'.heap[b]? = w.heap[b]?) : MapN P k e w' b n S := by
  obtain ⟨D, ⟨es, clock, hb, F, h1, h2⟩, h3⟩ := h
  exact ⟨D, ⟨es, clock, hh.trans hb, F, h1, h2⟩, h3⟩
theorem MapN.mono (h : MapN P k e w b n S) {m : Nat} (hm : n ≤ m) : MapN P k e w b m S := by
  obtain ⟨D, h1, h2⟩ := h
  exact ⟨D, h1.mono hm, h2⟩
theorem MapN.lt (h : MapN P k e w b n S) : b < w.heap.size := by obtain ⟨D, h1, _⟩ := h; exact h1.lt
theorem bstr_keyOf (hk : P.underlying k = some .string) (s : List UInt8) (hs : s.length ≤ 100000) : keyOf P k (.string (bstr s)) = some (.string s) :=
  WideMaps.keyOf_string_mk hk (by rw [bstr_size]; show s.length ≤ 9223372036854775807; omega)
theorem MapN.look (h : MapN P k e w b n S) (hk : P.underlying k = some .string) (ht : P.underlying t = some (.map k e)) (he : P.underlying e = some (.int .i64)) (hz : (zeroValue e).run P w = .ok (.int .i64 0) w) (s : List UInt8) (hs : s.length ≤ 100000) :
    (Instr.lookup t (.map (some b)) (.string (bstr s)) false).run P w = .ok (.int .i64 (if S.contains s then 1 else 0)) w := by
  obtain ⟨D, h1, h2, h3⟩ := h
  obtain ⟨c, hrun, hat, _⟩ := h1.lookup_int (string_keyed hk) ht he hz (bstr_keyOf hk s hs)
  rw [h3 s] at hat
  simp only [DataW.lit.injEq, Lit.int.injEq, true_and] at hat
  rw [hrun, hat]
theorem MapN.store (h : MapN P k e w b n S) (hk : P.underlying k = some .string) (ht : P.underlying t = some (.map k e)) (he : P.underlying e = some (.int .i64)) (hn : n < maxLen) (s : List UInt8) (hs : s.length ≤ 100000) :
    ∃ w', (Instr.mapUpdate t (.map (some b)) (.string (bstr s)) (.int .i64 1)).run P w = .ok () w' ∧ MapN P k e w' b (n + 1) (s :: S) ∧ w.grownBy w' (some b) := by
  obtain ⟨D, h1, h2, h3⟩ := h
  obtain ⟨w', hrun, ho, hg⟩ := h1.update (string_keyed hk) ht hn (bstr_keyOf hk s hs) (plainElem_int he (by decide : (Lit.int .i64 1).wf = true))
  refine ⟨w', hrun, ⟨_, ho, h2.put _ _, fun x => ?_⟩, hg⟩
  by_cases hxc : x = s
  · subst hxc
    rw [atKey_put_same h2 (str_key x)]
    simp
  · have hne : (Lit.string x) ≠ .string s := fun h => by injection h with h4; exact hxc h4
    rw [atKey_put_other hne, h3 x]
    have : (s :: S).contains x = S.contains x := by
      rw [List.contains_cons]
      have : (x == s) = false := by rw [beq_eq_false_iff_ne]; exact hxc
      rw [this, Bool.false_or]
    rw [this]
end
/-- a store, at the operation -/
theorem wpList_storeN {P : Program} (w : World) {ops : Array Oper} {rest : List Oper} {o : Oper} {a : Act} {Q : Exit → Act → World → Prop}
    (hg : o.guard = none) (m x v : Operand) (t : TypeId) (hop : o.op = Op.mapUpdate t m x v) (k e : TypeId) (ht : P.underlying t = some (.map k e)) (hk : P.underlying k = some .string) (he : P.underlying e = some (.int .i64))
    (b n : Nat) (S : List (List UInt8)) (hm : a.eval m = .map (some b)) (h : MapN P k e w b n S) (hn : n < maxLen) (s : List UInt8) (hs : s.length ≤ 100000) (hx : a.eval x = .string (bstr s)) (hv : a.eval v = .int .i64 1)
    (hK : ∀ w', MapN P k e w' b (n + 1) (s :: S) → w.grownBy w' (some b) → wpList P ops Q rest (a.put o.dst undef) w') :
    wpList P ops Q (o :: rest) a w := by
  refine wpList_plain hg fun K' hK' => ?_
  obtain ⟨w', hrun, r1, r2⟩ := h.store hk ht he hn s hs
  unfold Oper.wp
  simp [execOp, hop, hm, hx, hv, hrun, Result.andThen]
  exact hK' _ _ (hK w' r1 r2)
end Go.Proofs.YtlpkebngehmimaaGreatDoor
end
