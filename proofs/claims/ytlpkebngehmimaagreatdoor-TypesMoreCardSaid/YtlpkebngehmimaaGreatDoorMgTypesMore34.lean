/- Items read by their places; what tmpl.write holds. -/
import Derived.Test.YtlpkebngehmimaaGreatDoorChecked
import Derived.Lib.Builder
import Derived.Lib.Strings
import Derived.Lib.AppendStr
import Derived.Lib.UnsafeStr
import Derived.Laws.Externs
import Derived.Test.YtlpkebngehmimaaGreatDoorMgTypesMore1
import Derived.Test.YtlpkebngehmimaaGreatDoorMgTypesMore6
import Derived.Test.YtlpkebngehmimaaGreatDoorMgTypesMore33
section
/- strings.Builder at this seat: copyCheck, WriteString (the shelf's laying of these two falls here: its own text of copyCheck names one type more). -/
namespace Go.Proofs.YtlpkebngehmimaaGreatDoor
open Go.RowKit
set_option linter.unusedVariables false
set_option linter.unusedSimpArgs false
/-- a builder in a block of the call's own -/
abbrev IsB (B b : Nat) (l : List UInt8) (w : World) : Prop := Lib.IsBuilder 95 5 B b (Lib.byteCells l) w
theorem Bd.size : (Tryz.prog.info? 95).map (·.size) = some 2 := by kernel_rfl
theorem Bd.lies : liesAt Tryz.prog Tryz.prog.depth 95 (2 / Tryz.prog.cellsOf 95) 0 95 1 = true := by kernel_rfl
theorem Bd.byte : (Tryz.prog.info? 5).map (fun i => (i.zero, i.size, i.bytes)) = some (some (.int .u8 0), 1, 1) := by kernel_rfl
set_option maxRecDepth 100000 in
theorem copyCheck_used (b : Nat) (w : World) (h0 : w.cell? ⟨b, 0, none⟩ = some (.pointer (some ⟨b, 0, none⟩))) :
    Calls Tryz.prog 68 #[.pointer (some ⟨b, 0, none⟩)] w fun e w' => e = .returned (.tuple #[]) ∧ w' = w := by
  obtain ⟨j, hj, _⟩ := Option.map_eq_some_iff.1 Bd.size
  go_enter Tryz.func68, Tryz.ntmps68
  go_wp2
  rw [Lib.run_neq_ptr_same w _ Tryz.underlying93 hj]
  go_wp2
  go_end0
  exact ⟨rfl, rfl⟩
set_option maxRecDepth 100000 in
theorem copyCheck_fresh (b : Nat) (w : World) (h0 : w.cell? ⟨b, 0, none⟩ = some (.pointer none)) (hsh : w.shape? b = some (95, 2)) (hfz : w.frozen? ⟨b, 0, none⟩ = false) :
    Calls Tryz.prog 68 #[.pointer (some ⟨b, 0, none⟩)] w fun e w' => e = .returned (.tuple #[]) ∧ w' = w.setCell ⟨b, 0, none⟩ (.pointer (some ⟨b, 0, none⟩)) := by
  obtain ⟨j, hj, hjs⟩ := Option.map_eq_some_iff.1 Bd.size
  go_enter Tryz.func68, Tryz.ntmps68
  go_wp2
  rw [Lib.run_to_unsafe w ⟨b, 0, none⟩ Tryz.underlying93 Tryz.underlying113 hj (by rw [hjs]; decide) hsh (Nat.zero_lt_succ 1)]
  simp only [Result.andThen]
  rw [Oper.upon_value]
  go_wp2
  rw [run_callFunc_extern Tryz.func94 (by kernel_rfl) (by kernel_rfl) (by kernel_rfl) (e := Extern.AbiNoEscape.same) (by kernel_rfl)]
  rw [Lib.run_noEscape]
  simp only [Result.andThen]
  rw [Oper.upon_value]
  go_wp2
  rw [Lib.run_from_unsafe w ⟨b, 0, none⟩ Tryz.underlying113 Tryz.underlying93 hj hsh Bd.lies]
  simp only [Result.andThen]
  rw [Oper.upon_value]
  go_wp2
  go_end0
  exact ⟨rfl, rfl⟩
theorem copyCheck_any (B b : Nat) (bs : List Value) (w : World) (h : Lib.IsBuilder 95 5 B b bs w) :
    Calls Tryz.prog 68 #[.pointer (some ⟨b, 0, none⟩)] w fun e w' => e = .returned (.tuple #[]) ∧ (Lib.BuilderAt 95 5 B b (.pointer (some ⟨b, 0, none⟩)) bs w' ∧ Below B w w' ∧ ∀ (g off : Nat) (e : TypeId) (xs : List Value), g ≠ b → RowAt w g off e xs → RowAt w' g off e xs) := by
  rcases h with h | h
  · refine (copyCheck_fresh b w h.cell0 h.shape h.frozen0).mono ?_
    rintro e w' ⟨rfl, rfl⟩
    exact ⟨rfl, h.used _, (Below.refl B w).setCell (p := ⟨b, 0, none⟩) h.1 _, fun g off e xs hg hr => hr.far hg _⟩
  · refine (copyCheck_used b w h.cell0).mono ?_
    rintro e w' ⟨rfl, rfl⟩
    exact ⟨rfl, h, Below.refl B _, fun _ _ _ _ _ hr => hr⟩
theorem byteCells_append (l m : List UInt8) : Lib.byteCells l ++ Lib.strCells (bstr m) = Lib.byteCells (l ++ m) := by
  simp [Lib.byteCells, Lib.strCells, bstr]
theorem byteCells_length (l : List UInt8) : (Lib.byteCells l).length = l.length := by simp [Lib.byteCells]
set_option maxRecDepth 100000 in
theorem WriteString_any (B b : Nat) (l m : List UInt8) (w : World) (h : IsB B b l w) (hlen : l.length + m.length ≤ 140737488355328) (hBw : B ≤ w.heap.size) :
    Calls Tryz.prog 41 #[.pointer (some ⟨b, 0, none⟩), .string (bstr m)] w fun e w' => e = .returned (.tuple #[.int .i64 m.length, .nilIface]) ∧ IsB B b (l ++ m) w' ∧ Below B w w' ∧ ∀ (g off : Nat) (e : TypeId) (xs : List Value), g ≠ b → e ≠ 5 → RowAt w g off e xs → RowAt w' g off e xs := by
  obtain ⟨i0, hi, hz0, hz1, hz2⟩ := info_parts Bd.byte
  go_enter Tryz.func41, Tryz.ntmps41
  go_wp2_with fail
  refine (copyCheck_any B b _ _ h).mono ?_
  rintro e w1 ⟨rfl, h1, hb1, hkeep1⟩
  have HK1 := Lib.hid hkeep1; clear hkeep1
  obtain ⟨hB, v, hbk, hown, hne⟩ := h1
  have c0 : w1.cell? ⟨b, 0, none⟩ = some (.pointer (some ⟨b, 0, none⟩)) := by rw [Lib.cell_of_heap hbk]; rfl
  have c1 : w1.cell? ⟨b, 1, none⟩ = some v := by rw [Lib.cell_of_heap hbk]; rfl
  have hml : (bstr m).size = m.length := bstr_size m
  go_wp2_with (at_builtin; refine Lib.wpList_append_own_string _ rfl _ _ 64 9 rfl B 5 i0 Tryz.underlying64 Tryz.underlying9 hi hz0 hz1 hz2 _ _ _ rfl hown (bstr m) rfl ?c3 ?c4 ?c5 ?_)
  case c3 => rw [hml, byteCells_length]; unfold maxLen; omega
  case c4 => rw [hml, byteCells_length]; omega
  case c5 => have := hb1.size; omega
  intro v' w2 hown' hgrow _
  have hlt : b < w1.heap.size := by
    rcases Nat.lt_or_ge b w1.heap.size with h' | h'
    · exact h'
    · simp [Array.getElem?_eq_none h'] at hbk
  have hb2 : w2.heap[b]? = some (.cells #[.pointer (some ⟨b, 0, none⟩), v] 95 (0, 0)) := by
    rw [hgrow.block b hlt (fun e => hne e.symm)]
    exact hbk
  have d0 : w2.cell? ⟨b, 0, none⟩ = some (.pointer (some ⟨b, 0, none⟩)) := by rw [Lib.cell_of_heap hb2]; rfl
  have d1 : w2.cell? ⟨b, 1, none⟩ = some v := by rw [Lib.cell_of_heap hb2]; rfl
  have f1 : w2.frozen? ⟨b, 1, none⟩ = false := Lib.frozen_of_heap hb2 1
  obtain ⟨ao, n', cap, rfl⟩ : ∃ ao n' cap, v' = .slice ao n' cap := by
    rcases hown'.2 with ⟨hv, _⟩ | ⟨g, cap, cur, hv, _⟩
    · exact ⟨_, _, _, hv⟩
    · exact ⟨_, _, _, hv⟩
  go_wp2_with fail
  go_ret2
  refine ⟨rfl, .inr ?_, ?_, fun g off e xs hg he hr => ?_⟩
  · rw [← byteCells_append]
    exact Lib.BuilderAt.put (T := 95) (e := 5) hB hb2 (bs' := Lib.byteCells l ++ Lib.strCells (bstr m)) (by simpa [Lib.strCells_length, hml] using hown') (by decide)
  · exact (hb1.grown hgrow (by have := hb1.size; omega) (fun k hk => (hown.lt k hk).1)).setCell (p := ⟨b, 1, none⟩) hB _
  · have hr1 := HK1.out g off e xs hg hr
    refine (hr1.of_heap (hgrow.block g hr1.lt fun hh => ?_)).far hg _
    rcases hown.2 with ⟨hv, _⟩ | ⟨g', cap', cur, hv, _, hcur, _⟩
    · rw [hv] at hh; simp [Value.ownBlock] at hh
    · rw [hv] at hh
      simp [Value.ownBlock] at hh
      subst hh
      obtain ⟨cur2, fz, h2, _⟩ := hr1
      rw [hcur] at h2
      injection h2 with h2
      injection h2 with h3 h4 h5
      exact he h4.symm
theorem IsB.fresh (w : World) : IsB w.heap.size w.heap.size [] (w.alloc (.cells #[.pointer none, .slice none 0 0] 95)) := .inl (by
  have := Lib.fresh_isBuilder 95 5 w
  rcases this with h | h
  · exact h
  · have := h.cell0
    simp at this)
/-- what lies beyond does not matter -/
theorem IsB.below {B b : Nat} {l : List UInt8} {w w' : World} (h : IsB B b l w) (hb : Below w.heap.size w w') : IsB B b l w' := by
  have key : ∀ p, Lib.BuilderAt 95 5 B b p (Lib.byteCells l) w → Lib.BuilderAt 95 5 B b p (Lib.byteCells l) w' := by
    intro p h
    have hlt := h.lt
    obtain ⟨hB, v, hbk, hown, hne⟩ := h
    refine ⟨hB, v, by rw [hb.block b hlt]; exact hbk, ?_, hne⟩
    refine ⟨hown.1, ?_⟩
    rcases hown.2 with h1 | ⟨g, cp, cur, h1, h2, h3, h4⟩
    · exact .inl h1
    · refine .inr ⟨g, cp, cur, h1, h2, ?_, h4⟩
      have hg : g < w.heap.size := by
        rcases Nat.lt_or_ge g w.heap.size with h' | h'
        · exact h'
        · rw [Array.getElem?_eq_none h'] at h3; cases h3
      rw [hb.block g hg]; exact h3
  rcases h with h | h
  · exact .inl (key _ h)
  · exact .inr (key _ h)
/-- nor what is written into a row of another type -/
theorem IsB.far {B b : Nat} {l : List UInt8} {w : World} (h : IsB B b l w) {g off : Nat} {e : TypeId} {xs : List Value} (hr : RowAt w g off e xs) (he : e ≠ 5) (hg : g ≠ b) (i : Nat) (u : Value) : IsB B b l (w.setCell ⟨g, i, none⟩ u) := by
  have key : ∀ p, Lib.BuilderAt 95 5 B b p (Lib.byteCells l) w → Lib.BuilderAt 95 5 B b p (Lib.byteCells l) (w.setCell ⟨g, i, none⟩ u) := by
    intro p h
    obtain ⟨hB, v, hbk, hown, hne⟩ := h
    refine ⟨hB, v, (Below.heap_setCell w ⟨g, i, none⟩ u b (fun e => hg e.symm)).trans hbk, ?_, hne⟩
    refine ⟨hown.1, ?_⟩
    rcases hown.2 with h1 | ⟨g', cp, cur, h1, h2, h3, h4⟩
    · exact .inl h1
    · refine .inr ⟨g', cp, cur, h1, h2, (Below.heap_setCell w ⟨g, i, none⟩ u g' (fun e' => ?_)).trans h3, h4⟩
      have e2 : g' = g := e'
      subst e2
      obtain ⟨cur2, fz, h5, _⟩ := hr
      rw [h3] at h5
      injection h5 with h5
      injection h5 with h6 h7 h8
      exact he h7.symm
  rcases h with h | h
  · exact .inl (key _ h)
  · exact .inr (key _ h)
theorem IsB.lt {B b : Nat} {l : List UInt8} {w : World} (h : IsB B b l w) : b < w.heap.size := by
  rcases h with h | h
  · exact h.lt
  · exact h.lt
end Go.Proofs.YtlpkebngehmimaaGreatDoor
end
section
/- Items read by their places; what tmpl.write holds. -/
namespace Go.Proofs.YtlpkebngehmimaaGreatDoor
open Go.RowKit
set_option linter.unusedVariables false
set_option linter.unusedSimpArgs false
open Rd
namespace Tm
def Its.drop : Nat → Its → Its
  | 0, l => l
  | _ + 1, .nil => .nil
  | n + 1, .cons _ l => l.drop n
  | n + 1, .when _ _ _ l => l.drop n
theorem drop_nil (n : Nat) : Its.drop n .nil = .nil := by cases n <;> rfl
theorem drop_len : ∀ (l : Its), l.drop l.len = .nil
  | .nil => rfl
  | .cons _ l => drop_len l
  | .when _ _ _ l => drop_len l
theorem drop_lt : ∀ (l : Its) (i : Nat), i < l.len → (∃ h r, l.drop i = .cons h r) ∨ (∃ a c b r, l.drop i = .when a c b r)
  | .nil, i, h => by simp [Its.len] at h
  | .cons a l, 0, h => .inl ⟨a, l, rfl⟩
  | .cons a l, i + 1, h => drop_lt l i (by simp [Its.len] at h; omega)
  | .when a c b l, 0, h => .inr ⟨a, c, b, l, rfl⟩
  | .when a c b l, i + 1, h => drop_lt l i (by simp [Its.len] at h; omega)
def Its.tail : Its → Its
  | .nil => .nil
  | .cons _ l => l
  | .when _ _ _ l => l
theorem drop_succ : ∀ (i : Nat) (l : Its), l.drop (i + 1) = (l.drop i).tail
  | 0, .nil => rfl
  | 0, .cons _ l => rfl
  | 0, .when _ _ _ l => rfl
  | i + 1, .nil => by rw [drop_nil, drop_nil]; rfl
  | i + 1, .cons _ l => drop_succ i l
  | i + 1, .when _ _ _ l => drop_succ i l
theorem drop_app {α : Type} (a b : List α) (n : Nat) : (a ++ b).drop (a.length + n) = b.drop n := by
  induction a with
  | nil => simp
  | cons x a ih => rw [List.cons_append, List.length_cons, show a.length + 1 + n = (a.length + n) + 1 by omega, List.drop_succ_cons, ih]
theorem EncI.at_ {w : World} {rb : Nat} : ∀ (i : Nat) (l : Its) (vs : List Value), EncI w rb l vs → ∃ us, EncI w rb (l.drop i) us ∧ us = vs.drop (i * 13)
  | 0, l, vs, h => ⟨vs, h, by simp⟩
  | i + 1, .nil, vs, h => ⟨[], by rw [drop_nil]; rfl, by rw [show vs = [] from h]; simp⟩
  | i + 1, .cons a l, vs, h => by
    obtain ⟨cv, us, h1, rfl, h3⟩ := h
    obtain ⟨ys, g1, g2⟩ := EncI.at_ i l us h3
    refine ⟨ys, g1, ?_⟩
    rw [g2, show (i + 1) * 13 = (hdCells a cv).length + i * 13 by rw [hdCells_len]; omega, drop_app]
  | i + 1, .when a c b l, vs, h => by
    obtain ⟨cb, ga, cap, bs, us, h1, h2, h3, h4, rfl, h6⟩ := h
    obtain ⟨ys, g1, g2⟩ := EncI.at_ i l us h6
    refine ⟨ys, g1, ?_⟩
    rw [g2, show (i + 1) * 13 = (whenCells a (.pointer (some ⟨cb, 0, none⟩)) (.slice ga b.len cap)).length + i * 13 by rw [whenCells_len]; omega, drop_app]
/-- the row of one item in the row of all -/
theorem row_item {w : World} {g i : Nat} {vs cs us : List Value} (h : RowAt w g 0 88 vs) (hd : vs.drop (i * 13) = cs ++ us) : RowAt w g (i * 13) 88 cs := by
  have := h.part (i * 13) cs.length
  rw [hd, Nat.zero_add, List.take_left'] at this
  · exact this
  · rfl
/-- an item that is no 'when', in memory -/
theorem EncI.hd {w : World} {rb B i cap : Nat} {l : Its} {vs : List Value} {x : Addr} {h : Hd} {r : Its} (ho : Owns w B 88 13 (some x) l.len cap vs) (he : EncI w rb l vs) (hd : l.drop i = .cons h r) :
    ∃ cv, CntV w rb h.cnt cv ∧ RowAt w x.block (i * 13) 88 (hdCells h cv) ∧ l.drop (i + 1) = r := by
  obtain ⟨us, h1, h2⟩ := EncI.at_ i l vs he
  rw [hd] at h1
  obtain ⟨cv, ys, g1, g2, g3⟩ := h1
  exact ⟨cv, g1, row_item ho.row.2.2.2.2 (h2.symm.trans g2), by rw [drop_succ, hd]; rfl⟩
theorem EncI.wh {w : World} {rb B i cap : Nat} {l : Its} {vs : List Value} {x : Addr} {a : Nat} {c : Ex.X} {b r : Its} (ho : Owns w B 88 13 (some x) l.len cap vs) (he : EncI w rb l vs) (hd : l.drop i = .when a c b r) :
    ∃ cb ga capb bs, IsX w rb cb c ∧ Owns w (rb + 1) 88 13 ga b.len capb bs ∧ EncI w rb b bs ∧ RowAt w x.block (i * 13) 88 (whenCells a (.pointer (some ⟨cb, 0, none⟩)) (.slice ga b.len capb)) ∧ l.drop (i + 1) = r := by
  obtain ⟨us, h1, h2⟩ := EncI.at_ i l vs he
  rw [hd] at h1
  obtain ⟨cb, ga, capb, bs, ys, g1, g2, g3, g4, g5, g6⟩ := h1
  exact ⟨cb, ga, capb, bs, g1, g2, g4, row_item ho.row.2.2.2.2 (h2.symm.trans g5), by rw [drop_succ, hd]; rfl⟩
theorem fine_drop : ∀ (i : Nat) (l : Its), FineI l → FineI (l.drop i)
  | 0, l, h => h
  | i + 1, .nil, h => h
  | i + 1, .cons _ l, h => fine_drop i l h.2
  | i + 1, .when _ _ _ l, h => fine_drop i l h.2.2
def Its.sz : Its → Nat
  | .nil => 0
  | .cons _ l => l.sz + 1
  | .when _ _ b l => b.sz + l.sz + 1
theorem sz_drop : ∀ (i : Nat) (l : Its), (l.drop i).sz ≤ l.sz
  | 0, l => Nat.le_refl _
  | i + 1, .nil => Nat.le_refl _
  | i + 1, .cons _ l => by have := sz_drop i l; simp only [Its.drop, Its.sz]; omega
  | i + 1, .when _ _ _ l => by have := sz_drop i l; simp only [Its.drop, Its.sz]; omega
theorem CntV.upto {w w' : World} {rb : Nat} (hb : Below w.heap.size w w') {c : Option Ex.X} {v : Value} (h : CntV w rb c v) : CntV w' rb c v := by
  cases c with
  | none => exact h
  | some x =>
    obtain ⟨b, h1, h2⟩ := h
    exact ⟨b, h1, IsX.grown (below_grown hb _) x b h2⟩
end Tm
/-- since the world V a builder at V's end has grown -/
structure WrSt (V w : World) (txt : Tm.Wd) : Prop where
  bel : Below V.heap.size V w
  bd : IsB V.heap.size V.heap.size txt w
theorem WrSt.up {V w w' : World} {txt : Tm.Wd} (h : WrSt V w txt) (hb : Below w.heap.size w w') : WrSt V w' txt := ⟨h.bel.trans (hb.mono h.bel.size), h.bd.below hb⟩
theorem WrSt.row {V w : World} {txt : Tm.Wd} (h : WrSt V w txt) {g off : Nat} {e : TypeId} {xs : List Value} (hr : RowAt V g off e xs) : RowAt w g off e xs := hr.below h.bel hr.lt
theorem toList_bstr (X : ByteArray) : bstr X.data.toList = X := rfl
theorem Write_any (V w : World) (txt : Tm.Wd) (X : ByteArray) (h : WrSt V w txt) (hlen : txt.length + X.size ≤ 140737488355328) :
    Calls Tryz.prog 41 #[.pointer (some ⟨V.heap.size, 0, none⟩), .string X] w fun e w' => (∃ n : Nat, e = .returned (.tuple #[.int .i64 (n : Nat), .nilIface])) ∧ WrSt V w' (txt ++ X.data.toList) := by
  have := WriteString_any V.heap.size V.heap.size txt X.data.toList w h.bd (by rw [show X.data.toList.length = X.size from Array.length_toList]; exact hlen) h.bel.size
  refine Calls.mono this ?_
  rintro e w' ⟨rfl, h1, h2, _⟩
  exact ⟨⟨_, rfl⟩, h.bel.trans h2, h1⟩
end Go.Proofs.YtlpkebngehmimaaGreatDoor
end
