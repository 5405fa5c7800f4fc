/- Contract of types.find. -/
import Derived.Test.YtlomecfhobehnaaGreatDoorChecked
import Derived.Lib.Builder
import Derived.Lib.Strings
import Derived.Lib.AppendStr
import Derived.Lib.UnsafeStr
import Derived.Laws.Externs
import Derived.Test.YtlomecfhobehnaaGreatDoorMgLayoutBack0
import Derived.Test.YtlomecfhobehnaaGreatDoorMgLayoutBack4
import Derived.Test.YtlomecfhobehnaaGreatDoorMgLayoutBack29
import Derived.Test.YtlomecfhobehnaaGreatDoorMgLayoutBack28
section
/- strings.Builder at this seat: copyCheck, WriteString (the shelf's laying of these two falls here: its own text of copyCheck names one type more). -/
namespace Go.Proofs.YtlomecfhobehnaaGreatDoor
open Go.RowKit
set_option linter.unusedVariables false
set_option linter.unusedSimpArgs false
/-- a builder in a block of the call's own -/
abbrev IsB (B b : Nat) (l : List UInt8) (w : World) : Prop := Lib.IsBuilder 149 5 B b (Lib.byteCells l) w
theorem Bd.size : (Tryz.prog.info? 149).map (·.size) = some 2 := by kernel_rfl
theorem Bd.lies : liesAt Tryz.prog Tryz.prog.depth 149 (2 / Tryz.prog.cellsOf 149) 0 149 1 = true := by kernel_rfl
theorem Bd.byte : (Tryz.prog.info? 5).map (fun i => (i.zero, i.size, i.bytes)) = some (some (.int .u8 0), 1, 1) := by kernel_rfl
set_option maxRecDepth 100000 in
theorem copyCheck_used (b : Nat) (w : World) (h0 : w.cell? ⟨b, 0, none⟩ = some (.pointer (some ⟨b, 0, none⟩))) :
    Calls Tryz.prog 106 #[.pointer (some ⟨b, 0, none⟩)] w fun e w' => e = .returned (.tuple #[]) ∧ w' = w := by
  obtain ⟨j, hj, _⟩ := Option.map_eq_some_iff.1 Bd.size
  go_enter Tryz.func106, Tryz.ntmps106
  go_wp2
  rw [Lib.run_neq_ptr_same w _ Tryz.underlying146 hj]
  go_wp2
  go_end0
  exact ⟨rfl, rfl⟩
set_option maxRecDepth 100000 in
theorem copyCheck_fresh (b : Nat) (w : World) (h0 : w.cell? ⟨b, 0, none⟩ = some (.pointer none)) (hsh : w.shape? b = some (149, 2)) (hfz : w.frozen? ⟨b, 0, none⟩ = false) :
    Calls Tryz.prog 106 #[.pointer (some ⟨b, 0, none⟩)] w fun e w' => e = .returned (.tuple #[]) ∧ w' = w.setCell ⟨b, 0, none⟩ (.pointer (some ⟨b, 0, none⟩)) := by
  obtain ⟨j, hj, hjs⟩ := Option.map_eq_some_iff.1 Bd.size
  go_enter Tryz.func106, Tryz.ntmps106
  go_wp2
  rw [Lib.run_to_unsafe w ⟨b, 0, none⟩ Tryz.underlying146 Tryz.underlying134 hj (by rw [hjs]; decide) hsh (Nat.zero_lt_succ 1)]
  simp only [Result.andThen]
  rw [Oper.upon_value]
  go_wp2
  rw [run_callFunc_extern Tryz.func128 (by kernel_rfl) (by kernel_rfl) (by kernel_rfl) (e := Extern.AbiNoEscape.same) (by kernel_rfl)]
  rw [Lib.run_noEscape]
  simp only [Result.andThen]
  rw [Oper.upon_value]
  go_wp2
  rw [Lib.run_from_unsafe w ⟨b, 0, none⟩ Tryz.underlying134 Tryz.underlying146 hj hsh Bd.lies]
  simp only [Result.andThen]
  rw [Oper.upon_value]
  go_wp2
  go_end0
  exact ⟨rfl, rfl⟩
theorem copyCheck_any (B b : Nat) (bs : List Value) (w : World) (h : Lib.IsBuilder 149 5 B b bs w) :
    Calls Tryz.prog 106 #[.pointer (some ⟨b, 0, none⟩)] w fun e w' => e = .returned (.tuple #[]) ∧ (Lib.BuilderAt 149 5 B b (.pointer (some ⟨b, 0, none⟩)) bs w' ∧ Below B w w' ∧ ∀ (g off : Nat) (e : TypeId) (xs : List Value), g ≠ b → RowAt w g off e xs → RowAt w' g off e xs) := by
  rcases h with h | h
  · refine (copyCheck_fresh b w h.cell0 h.shape h.frozen0).mono ?_
    rintro e w' ⟨rfl, rfl⟩
    exact ⟨rfl, h.used _, (Below.refl B w).setCell (p := ⟨b, 0, none⟩) h.1 _, fun g off e xs hg hr => hr.far hg _⟩
  · refine (copyCheck_used b w h.cell0).mono ?_
    rintro e w' ⟨rfl, rfl⟩
    exact ⟨rfl, h, Below.refl B _, fun _ _ _ _ _ hr => hr⟩
theorem byteCells_append (l m : List UInt8) : Lib.byteCells l ++ Lib.strCells (bstr m) = Lib.byteCells (l ++ m) := by
  simp [Lib.byteCells, Lib.strCells, bstr]
theorem byteCells_length (l : List UInt8) : (Lib.byteCells l).length = l.length := by simp [Lib.byteCells]
set_option maxRecDepth 100000 in
theorem WriteString_any (B b : Nat) (l m : List UInt8) (w : World) (h : IsB B b l w) (hlen : l.length + m.length ≤ 140737488355328) (hBw : B ≤ w.heap.size) :
    Calls Tryz.prog 81 #[.pointer (some ⟨b, 0, none⟩), .string (bstr m)] w fun e w' => e = .returned (.tuple #[.int .i64 m.length, .nilIface]) ∧ IsB B b (l ++ m) w' ∧ Below B w w' ∧ ∀ (g off : Nat) (e : TypeId) (xs : List Value), g ≠ b → e ≠ 5 → RowAt w g off e xs → RowAt w' g off e xs := by
  obtain ⟨i0, hi, hz0, hz1, hz2⟩ := info_parts Bd.byte
  go_enter Tryz.func81, Tryz.ntmps81
  go_wp2_with fail
  refine (copyCheck_any B b _ _ h).mono ?_
  rintro e w1 ⟨rfl, h1, hb1, hkeep1⟩
  have HK1 := Lib.hid hkeep1; clear hkeep1
  obtain ⟨hB, v, hbk, hown, hne⟩ := h1
  have c0 : w1.cell? ⟨b, 0, none⟩ = some (.pointer (some ⟨b, 0, none⟩)) := by rw [Lib.cell_of_heap hbk]; rfl
  have c1 : w1.cell? ⟨b, 1, none⟩ = some v := by rw [Lib.cell_of_heap hbk]; rfl
  have hml : (bstr m).size = m.length := bstr_size m
  go_wp2_with (at_builtin; refine Lib.wpList_append_own_string _ rfl _ _ 147 9 rfl B 5 i0 Tryz.underlying147 Tryz.underlying9 hi hz0 hz1 hz2 _ _ _ rfl hown (bstr m) rfl ?c3 ?c4 ?c5 ?_)
  case c3 => rw [hml, byteCells_length]; unfold maxLen; omega
  case c4 => rw [hml, byteCells_length]; omega
  case c5 => have := hb1.size; omega
  intro v' w2 hown' hgrow _
  have hlt : b < w1.heap.size := by
    rcases Nat.lt_or_ge b w1.heap.size with h' | h'
    · exact h'
    · simp [Array.getElem?_eq_none h'] at hbk
  have hb2 : w2.heap[b]? = some (.cells #[.pointer (some ⟨b, 0, none⟩), v] 149 (0, 0)) := by
    rw [hgrow.block b hlt (fun e => hne e.symm)]
    exact hbk
  have d0 : w2.cell? ⟨b, 0, none⟩ = some (.pointer (some ⟨b, 0, none⟩)) := by rw [Lib.cell_of_heap hb2]; rfl
  have d1 : w2.cell? ⟨b, 1, none⟩ = some v := by rw [Lib.cell_of_heap hb2]; rfl
  have f1 : w2.frozen? ⟨b, 1, none⟩ = false := Lib.frozen_of_heap hb2 1
  obtain ⟨ao, n', cap, rfl⟩ : ∃ ao n' cap, v' = .slice ao n' cap := by
    rcases hown'.2 with ⟨hv, _⟩ | ⟨g, cap, cur, hv, _⟩
    · exact ⟨_, _, _, hv⟩
    · exact ⟨_, _, _, hv⟩
  go_wp2_with fail
  go_ret2
  refine ⟨rfl, .inr ?_, ?_, fun g off e xs hg he hr => ?_⟩
  · rw [← byteCells_append]
    exact Lib.BuilderAt.put (T := 149) (e := 5) hB hb2 (bs' := Lib.byteCells l ++ Lib.strCells (bstr m)) (by simpa [Lib.strCells_length, hml] using hown') (by decide)
  · exact (hb1.grown hgrow (by have := hb1.size; omega) (fun k hk => (hown.lt k hk).1)).setCell (p := ⟨b, 1, none⟩) hB _
  · have hr1 := HK1.out g off e xs hg hr
    refine (hr1.of_heap (hgrow.block g hr1.lt fun hh => ?_)).far hg _
    rcases hown.2 with ⟨hv, _⟩ | ⟨g', cap', cur, hv, _, hcur, _⟩
    · rw [hv] at hh; simp [Value.ownBlock] at hh
    · rw [hv] at hh
      simp [Value.ownBlock] at hh
      subst hh
      obtain ⟨cur2, fz, h2, _⟩ := hr1
      rw [hcur] at h2
      injection h2 with h2
      injection h2 with h3 h4 h5
      exact he h4.symm
theorem IsB.fresh (w : World) : IsB w.heap.size w.heap.size [] (w.alloc (.cells #[.pointer none, .slice none 0 0] 149)) := .inl (by
  have := Lib.fresh_isBuilder 149 5 w
  rcases this with h | h
  · exact h
  · have := h.cell0
    simp at this)
/-- what lies beyond does not matter -/
theorem IsB.below {B b : Nat} {l : List UInt8} {w w' : World} (h : IsB B b l w) (hb : Below w.heap.size w w') : IsB B b l w' := by
  have key : ∀ p, Lib.BuilderAt 149 5 B b p (Lib.byteCells l) w → Lib.BuilderAt 149 5 B b p (Lib.byteCells l) w' := by
    intro p h
    have hlt := h.lt
    obtain ⟨hB, v, hbk, hown, hne⟩ := h
    refine ⟨hB, v, by rw [hb.block b hlt]; exact hbk, ?_, hne⟩
    refine ⟨hown.1, ?_⟩
    rcases hown.2 with h1 | ⟨g, cp, cur, h1, h2, h3, h4⟩
    · exact .inl h1
    · refine .inr ⟨g, cp, cur, h1, h2, ?_, h4⟩
      have hg : g < w.heap.size := by
        rcases Nat.lt_or_ge g w.heap.size with h' | h'
        · exact h'
        · rw [Array.getElem?_eq_none h'] at h3; cases h3
      rw [hb.block g hg]; exact h3
  rcases h with h | h
  · exact .inl (key _ h)
  · exact .inr (key _ h)
/-- nor what is written into a row of another type -/
theorem IsB.far {B b : Nat} {l : List UInt8} {w : World} (h : IsB B b l w) {g off : Nat} {e : TypeId} {xs : List Value} (hr : RowAt w g off e xs) (he : e ≠ 5) (hg : g ≠ b) (i : Nat) (u : Value) : IsB B b l (w.setCell ⟨g, i, none⟩ u) := by
  have key : ∀ p, Lib.BuilderAt 149 5 B b p (Lib.byteCells l) w → Lib.BuilderAt 149 5 B b p (Lib.byteCells l) (w.setCell ⟨g, i, none⟩ u) := by
    intro p h
    obtain ⟨hB, v, hbk, hown, hne⟩ := h
    refine ⟨hB, v, (Below.heap_setCell w ⟨g, i, none⟩ u b (fun e => hg e.symm)).trans hbk, ?_, hne⟩
    refine ⟨hown.1, ?_⟩
    rcases hown.2 with h1 | ⟨g', cp, cur, h1, h2, h3, h4⟩
    · exact .inl h1
    · refine .inr ⟨g', cp, cur, h1, h2, (Below.heap_setCell w ⟨g, i, none⟩ u g' (fun e' => ?_)).trans h3, h4⟩
      have e2 : g' = g := e'
      subst e2
      obtain ⟨cur2, fz, h5, _⟩ := hr
      rw [h3] at h5
      injection h5 with h5
      injection h5 with h6 h7 h8
      exact he h7.symm
  rcases h with h | h
  · exact .inl (key _ h)
  · exact .inr (key _ h)
theorem IsB.lt {B b : Nat} {l : List UInt8} {w : World} (h : IsB B b l w) : b < w.heap.size := by
  rcases h with h | h
  · exact h.lt
  · exact h.lt
end Go.Proofs.YtlomecfhobehnaaGreatDoor
end
section
/- Items read by their places; what tmpl.write holds. -/
namespace Go.Proofs.YtlomecfhobehnaaGreatDoor
open Go.RowKit
set_option linter.unusedVariables false
set_option linter.unusedSimpArgs false
open Rd
namespace Tm
def Its.drop : Nat → Its → Its
  | 0, l => l
  | _ + 1, .nil => .nil
  | n + 1, .cons _ l => l.drop n
  | n + 1, .when _ _ _ l => l.drop n
theorem drop_nil (n : Nat) : Its.drop n .nil = .nil := by cases n <;> rfl
theorem drop_len : ∀ (l : Its), l.drop l.len = .nil
  | .nil => rfl
  | .cons _ l => drop_len l
  | .when _ _ _ l => drop_len l
theorem drop_lt : ∀ (l : Its) (i : Nat), i < l.len → (∃ h r, l.drop i = .cons h r) ∨ (∃ a c b r, l.drop i = .when a c b r)
  | .nil, i, h => by simp [Its.len] at h
  | .cons a l, 0, h => .inl ⟨a, l, rfl⟩
  | .cons a l, i + 1, h => drop_lt l i (by simp [Its.len] at h; omega)
  | .when a c b l, 0, h => .inr ⟨a, c, b, l, rfl⟩
  | .when a c b l, i + 1, h => drop_lt l i (by simp [Its.len] at h; omega)
def Its.tail : Its → Its
  | .nil => .nil
  | .cons _ l => l
  | .when _ _ _ l => l
theorem drop_succ : ∀ (i : Nat) (l : Its), l.drop (i + 1) = (l.drop i).tail
  | 0, .nil => rfl
  | 0, .cons _ l => rfl
  | 0, .when _ _ _ l => rfl
  | i + 1, .nil => by rw [drop_nil, drop_nil]; rfl
  | i + 1, .cons _ l => drop_succ i l
  | i + 1, .when _ _ _ l => drop_succ i l
theorem drop_app {α : Type} (a b : List α) (n : Nat) : (a ++ b).drop (a.length + n) = b.drop n := by
  induction a with
  | nil => simp
  | cons x a ih => rw [List.cons_append, List.length_cons, show a.length + 1 + n = (a.length + n) + 1 by omega, List.drop_succ_cons, ih]
theorem EncI.at_ {w : World} {rb : Nat} : ∀ (i : Nat) (l : Its) (vs : List Value), EncI w rb l vs → ∃ us, EncI w rb (l.drop i) us ∧ us = vs.drop (i * 13)
  | 0, l, vs, h => ⟨vs, h, by simp⟩
  | i + 1, .nil, vs, h => ⟨[], by rw [drop_nil]; rfl, by rw [show vs = [] from h]; simp⟩
  | i + 1, .cons a l, vs, h => by
    obtain ⟨cv, us, h1, rfl, h3⟩ := h
    obtain ⟨ys, g1, g2⟩ := EncI.at_ i l us h3
    refine ⟨ys, g1, ?_⟩
    rw [g2, show (i + 1) * 13 = (hdCells a cv).length + i * 13 by rw [hdCells_len]; omega, drop_app]
  | i + 1, .when a c b l, vs, h => by
    obtain ⟨cb, ga, cap, bs, us, h1, h2, h3, h4, rfl, h6⟩ := h
    obtain ⟨ys, g1, g2⟩ := EncI.at_ i l us h6
    refine ⟨ys, g1, ?_⟩
    rw [g2, show (i + 1) * 13 = (whenCells a (.pointer (some ⟨cb, 0, none⟩)) (.slice ga b.len cap)).length + i * 13 by rw [whenCells_len]; omega, drop_app]
/-- the row of one item in the row of all -/
theorem row_item {w : World} {g i : Nat} {vs cs us : List Value} (h : RowAt w g 0 70 vs) (hd : vs.drop (i * 13) = cs ++ us) : RowAt w g (i * 13) 70 cs := by
  have := h.part (i * 13) cs.length
  rw [hd, Nat.zero_add, List.take_left'] at this
  · exact this
  · rfl
/-- an item that is no 'when', in memory -/
theorem EncI.hd {w : World} {rb B i cap : Nat} {l : Its} {vs : List Value} {x : Addr} {h : Hd} {r : Its} (ho : Owns w B 70 13 (some x) l.len cap vs) (he : EncI w rb l vs) (hd : l.drop i = .cons h r) :
    ∃ cv, CntV w rb h.cnt cv ∧ RowAt w x.block (i * 13) 70 (hdCells h cv) ∧ l.drop (i + 1) = r := by
  obtain ⟨us, h1, h2⟩ := EncI.at_ i l vs he
  rw [hd] at h1
  obtain ⟨cv, ys, g1, g2, g3⟩ := h1
  exact ⟨cv, g1, row_item ho.row.2.2.2.2 (h2.symm.trans g2), by rw [drop_succ, hd]; rfl⟩
theorem EncI.wh {w : World} {rb B i cap : Nat} {l : Its} {vs : List Value} {x : Addr} {a : Nat} {c : Ex.X} {b r : Its} (ho : Owns w B 70 13 (some x) l.len cap vs) (he : EncI w rb l vs) (hd : l.drop i = .when a c b r) :
    ∃ cb ga capb bs, IsX w rb cb c ∧ Owns w (rb + 1) 70 13 ga b.len capb bs ∧ EncI w rb b bs ∧ RowAt w x.block (i * 13) 70 (whenCells a (.pointer (some ⟨cb, 0, none⟩)) (.slice ga b.len capb)) ∧ l.drop (i + 1) = r := by
  obtain ⟨us, h1, h2⟩ := EncI.at_ i l vs he
  rw [hd] at h1
  obtain ⟨cb, ga, capb, bs, ys, g1, g2, g3, g4, g5, g6⟩ := h1
  exact ⟨cb, ga, capb, bs, g1, g2, g4, row_item ho.row.2.2.2.2 (h2.symm.trans g5), by rw [drop_succ, hd]; rfl⟩
theorem fine_drop : ∀ (i : Nat) (l : Its), FineI l → FineI (l.drop i)
  | 0, l, h => h
  | i + 1, .nil, h => h
  | i + 1, .cons _ l, h => fine_drop i l h.2
  | i + 1, .when _ _ _ l, h => fine_drop i l h.2.2
def Its.sz : Its → Nat
  | .nil => 0
  | .cons _ l => l.sz + 1
  | .when _ _ b l => b.sz + l.sz + 1
theorem sz_drop : ∀ (i : Nat) (l : Its), (l.drop i).sz ≤ l.sz
  | 0, l => Nat.le_refl _
  | i + 1, .nil => Nat.le_refl _
  | i + 1, .cons _ l => by have := sz_drop i l; simp only [Its.drop, Its.sz]; omega
  | i + 1, .when _ _ _ l => by have := sz_drop i l; simp only [Its.drop, Its.sz]; omega
theorem CntV.upto {w w' : World} {rb : Nat} (hb : Below w.heap.size w w') {c : Option Ex.X} {v : Value} (h : CntV w rb c v) : CntV w' rb c v := by
  cases c with
  | none => exact h
  | some x =>
    obtain ⟨b, h1, h2⟩ := h
    exact ⟨b, h1, IsX.grown (below_grown hb _) x b h2⟩
end Tm
/-- since the world V a builder at V's end has grown -/
structure WrSt (V w : World) (txt : Tm.Wd) : Prop where
  bel : Below V.heap.size V w
  bd : IsB V.heap.size V.heap.size txt w
theorem WrSt.up {V w w' : World} {txt : Tm.Wd} (h : WrSt V w txt) (hb : Below w.heap.size w w') : WrSt V w' txt := ⟨h.bel.trans (hb.mono h.bel.size), h.bd.below hb⟩
theorem WrSt.row {V w : World} {txt : Tm.Wd} (h : WrSt V w txt) {g off : Nat} {e : TypeId} {xs : List Value} (hr : RowAt V g off e xs) : RowAt w g off e xs := hr.below h.bel hr.lt
theorem toList_bstr (X : ByteArray) : bstr X.data.toList = X := rfl
theorem Write_any (V w : World) (txt : Tm.Wd) (X : ByteArray) (h : WrSt V w txt) (hlen : txt.length + X.size ≤ 140737488355328) :
    Calls Tryz.prog 81 #[.pointer (some ⟨V.heap.size, 0, none⟩), .string X] w fun e w' => (∃ n : Nat, e = .returned (.tuple #[.int .i64 (n : Nat), .nilIface])) ∧ WrSt V w' (txt ++ X.data.toList) := by
  have := WriteString_any V.heap.size V.heap.size txt X.data.toList w h.bd (by rw [show X.data.toList.length = X.size from Array.length_toList]; exact hlen) h.bel.size
  refine Calls.mono this ?_
  rintro e w' ⟨rfl, h1, h2, _⟩
  exact ⟨⟨_, rfl⟩, h.bel.trans h2, h1⟩
end Go.Proofs.YtlomecfhobehnaaGreatDoor
end
section
/- Contract of types.find. -/
namespace Go.Proofs.YtlomecfhobehnaaGreatDoor
open Go.RowKit
set_option linter.unusedVariables false
set_option linter.unusedSimpArgs false
open Rd
/-- items that lie since V -/
structure ItV (V w : World) (rb : Nat) (l : Tm.Its) (ga : Option Addr) (cap : Nat) (bs : List Value) : Prop where
  own : Owns V (rb + 1) 70 13 ga (Tm.Its.len l) cap bs
  enc : Tm.EncI V rb l bs
  bel : Below V.heap.size V w
theorem ItV.up {V w w' : World} {rb : Nat} {l : Tm.Its} {ga : Option Addr} {cap : Nat} {bs : List Value} (h : ItV V w rb l ga cap bs) (hb : Below w.heap.size w w') : ItV V w' rb l ga cap bs := ⟨h.own, h.enc, h.bel.trans (hb.mono h.bel.size)⟩
theorem ItV.upV {V w w' : World} {rb : Nat} {l : Tm.Its} {ga : Option Addr} {cap : Nat} {bs : List Value} (h : ItV V w rb l ga cap bs) (hb : Below V.heap.size w w') : ItV V w' rb l ga cap bs := ⟨h.own, h.enc, h.bel.trans hb⟩
namespace Tm
theorem row_len (l : Its) : l.row.length = l.len := by
  induction l with
  | nil => rfl
  | cons h l ih => simp only [Its.row, Its.len, List.length_cons, ih]
  | when a c b l _ ih => simp only [Its.row, Its.len, List.length_cons, ih]
theorem row_drop : ∀ (i : Nat) (l : Its), (l.drop i).row = l.row.drop i
  | 0, l => by simp [Its.drop]
  | i + 1, .nil => by simp [Its.drop, Its.row]
  | i + 1, .cons _ l => by simp only [Its.drop, Its.row, List.drop_succ_cons]; exact row_drop i l
  | i + 1, .when _ _ _ l => by simp only [Its.drop, Its.row, List.drop_succ_cons]; exact row_drop i l
theorem row_get {l : Its} {i : Nat} {s : Sk} {R : List Sk} (h : (l.drop i).row = s :: R) : l.row[i]? = some s := by
  rw [row_drop] at h
  have := congrArg (fun L => L[0]?) h
  simpa using this
end Tm
/-- the cells of the item at a place, as rules see them -/
abbrev itCells (s : Tm.Sk) (k0 k1 k4 k5 : Nat) (s3 : ByteArray) (b6 : Bool) (p8 a12 : Option Addr) (n12 c12 : Nat) : List Value :=
  [.int .i64 (k0 : Nat), .int .i64 (k1 : Nat), .string (bstr s.name), .string s3, .int .i64 (k4 : Nat), .int .i64 (k5 : Nat), .bool b6, .bool s.many, .pointer p8, .int .i64 ((ruleV s.rule).1 : Nat), .string (bstr (Tm.firstW s.rule)), .string (bstr (Tm.lastW s.rule)), .slice a12 n12 c12]
theorem ruleV_eq (r : Tm.Rl) : (ruleV r).2.1 = Tm.firstW r ∧ (ruleV r).2.2 = Tm.lastW r := by cases r <;> exact ⟨rfl, rfl⟩
theorem ItV.cells {V w : World} {rb : Nat} {l : Tm.Its} {x : Addr} {cap : Nat} {bs : List Value} (h : ItV V w rb l (some x) cap bs) (i : Nat) (hi : i < Tm.Its.len l) :
    ∃ (s : Tm.Sk) (k0 k1 k4 k5 : Nat) (s3 : ByteArray) (b6 : Bool) (p8 a12 : Option Addr) (n12 c12 : Nat), l.row[i]? = some s ∧ RowAt w x.block (i * 13) 70 (itCells s k0 k1 k4 k5 s3 b6 p8 a12 n12 c12) ∧ (k0 = 4 ↔ s.wh = true) ∧ k0 ≤ 4 ∧ s.w4 = (decide (k4 = 4) && !b6) := by
  rcases Tm.drop_lt l i hi with ⟨hd, r, hdr⟩ | ⟨a, c, b, r, hdr⟩
  · obtain ⟨cv, hcv, hrow, hnx⟩ := Tm.EncI.hd h.own h.enc hdr
    have hrow2 := hrow.below h.bel hrow.lt
    obtain ⟨p8, hp8⟩ : ∃ p8, cv = .pointer p8 := by
      cases hc : hd.cnt with
      | none => rw [hc] at hcv; exact ⟨none, hcv⟩
      | some x => rw [hc] at hcv; obtain ⟨b, h1, _⟩ := hcv; exact ⟨_, h1⟩
    refine ⟨Tm.skH hd, Tm.kindN hd.k, hd.at_, (Tm.kindW hd.k).1, (Tm.kindW hd.k).2.1, bstr (Tm.kindT hd.k), (Tm.kindW hd.k).2.2, p8, none, 0, 0, Tm.row_get (by rw [hdr]; rfl), ?_, ?_, ?_, ?_⟩
    · obtain ⟨e1, e2⟩ := ruleV_eq hd.rule
      have e3 : Tm.manyB hd = Tm.manyH hd := rfl
      unfold Tm.hdCells at hrow2
      rw [e1, e2, e3, hp8] at hrow2
      exact hrow2
    · constructor
      · intro e; cases hk : hd.k <;> rw [hk] at e <;> simp [Tm.kindN] at e
      · intro e; cases e
    · cases hd.k <;> simp [Tm.kindN]
    · show Tm.w4K hd.k = _
      unfold Tm.w4K Tm.kindW
      cases hd.k <;> rfl
  · obtain ⟨cb, ga, capb, bb, _, _, _, hrow, hnx⟩ := Tm.EncI.wh h.own h.enc hdr
    have hrow2 := hrow.below h.bel hrow.lt
    exact ⟨Tm.skW, 4, a, 0, 0, bstr [], false, some ⟨cb, 0, none⟩, ga, Tm.Its.len b, capb, Tm.row_get (by rw [hdr]; rfl), hrow2, ⟨fun _ => rfl, fun _ => rfl⟩, Nat.le_refl _, rfl⟩
set_option maxRecDepth 100000 in
set_option maxHeartbeats 1000000 in
theorem found_one (s : Tm.Sk) (k0 k1 k4 k5 : Nat) (s3 : ByteArray) (b6 : Bool) (p8 a12 : Option Addr) (n12 c12 sb : Nat) (nm : Tm.Wd) (w : World) (hk : k0 = 4 ↔ s.wh = true) (hk4 : k0 ≤ 4) (hb : RowAt w sb 0 9 [.string (bstr nm)]) :
    Calls Tryz.prog 140 #[.agg (itCells s k0 k1 k4 k5 s3 b6 p8 a12 n12 c12).toArray, .pointer (some ⟨sb, 0, none⟩)] w fun e w' => e = .returned (.bool (Tm.called nm s)) ∧ Below w.heap.size w w' := by
  have hrow := RowAt.new w 70 (itCells s k0 k1 k4 k5 s3 b6 p8 a12 n12 c12).toArray
  have hbb := (Below.refl w.heap.size w).alloc (Nat.le_refl _) (.cells (itCells s k0 k1 k4 k5 s3 b6 p8 a12 n12 c12).toArray 70)
  have hb2 := hb.below hbb hb.lt
  have c0 := hrow.cell0 0 (by simp); have c2 := hrow.cell0 2 (by simp)
  have d0 := hb2.cell0 0 (by simp)
  simp only [itCells, List.getElem_cons_zero, List.getElem_cons_succ] at c0 c2 d0
  have HB := Lib.hid hbb
  have HK := Lib.hid hk
  clear hrow hbb hb2 hb hk
  unfold Tm.called
  by_cases h4 : k0 = 4
  · have hw := HK.out.1 h4
    have q1 : ((k0 : Int) == 4) = true := by rw [beq_iff_eq]; omega
    have q2 : ((k0 : Int) != 4) = false := by rw [bne, q1]; rfl
    have q3 : (k0 == 4) = true := by rw [beq_iff_eq]; exact h4
    have q4 : (k0 != 4) = false := by rw [bne, q3]; rfl
    have HW := Lib.hid hw
    clear h4 hw
    go_enter Tryz.func140, Tryz.ntmps140
    go_wp2_with fail
    go_ret
    refine ⟨?_, HB.out⟩
    rw [HW.out]; rfl
  · have hw : s.wh = false := by
      cases h : s.wh with
      | false => rfl
      | true => exact absurd (HK.out.2 h) h4
    have q1 : ((k0 : Int) == 4) = false := by rw [beq_eq_false_iff_ne]; omega
    have q2 : ((k0 : Int) != 4) = true := by rw [bne, q1]; rfl
    have q3 : (k0 == 4) = false := by rw [beq_eq_false_iff_ne]; exact h4
    have q4 : (k0 != 4) = true := by rw [bne, q3]; rfl
    have HW := Lib.hid hw
    clear h4 hw
    go_enter Tryz.func140, Tryz.ntmps140
    go_wp2_with fail
    go_ret
    refine ⟨?_, HB.out⟩
    rw [HW.out]; rfl
namespace Tm
theorem findIdx_at {R : List Sk} {nm : Wd} {k : Nat} {s : Sk} (h1 : (R.take k).findIdx? (called nm) = none) (h2 : R[k]? = some s) (h3 : called nm s = true) : R.findIdx? (called nm) = some k := by
  have hk : k < R.length := by
    rcases Nat.lt_or_ge k R.length with h | h
    · exact h
    · rw [List.getElem?_eq_none h] at h2; cases h2
  have e : R = R.take k ++ s :: R.drop (k + 1) := by
    conv => lhs; rw [← List.take_append_drop k R]
    congr 1
    rw [List.drop_eq_getElem_cons hk]
    rw [List.getElem?_eq_getElem hk] at h2
    injection h2 with h2
    rw [h2]
  rw [e, List.findIdx?_append, h1, List.findIdx?_cons, h3]
  simp [List.length_take]; omega
theorem findIdx_more {R : List Sk} {nm : Wd} {k : Nat} {s : Sk} (h1 : (R.take k).findIdx? (called nm) = none) (h2 : R[k]? = some s) (h3 : called nm s = false) : (R.take (k + 1)).findIdx? (called nm) = none := by
  rw [List.take_add_one, h2, List.findIdx?_append, h1]
  simp [List.findIdx?_cons, h3]
theorem findI_bound (R : List Sk) (nm : Wd) : -1 ≤ findI R nm ∧ findI R nm < R.length := by
  unfold findI
  cases h : R.findIdx? (called nm) with
  | none => simp only []; omega
  | some k =>
    have := (List.findIdx?_eq_some_iff_getElem.1 h).1
    simp only []; omega
end Tm
set_option maxRecDepth 100000 in
set_option maxHeartbeats 1000000 in
theorem indexF (V : World) (rb cap sb n : Nat) (l : Tm.Its) (ga : Option Addr) (bs : List Value) (nm : Tm.Wd) (w : World) (hn : n = Tm.Its.len l) (hn2 : n ≤ 100000) (h : ItV V w rb l ga cap bs) (hb : RowAt w sb 0 9 [.string (bstr nm)]) :
    Calls Tryz.prog 120 #[.slice ga n cap, .func (.func 140) #[] #[.pointer (some ⟨sb, 0, none⟩)]] w fun e w' => e = .returned (.int .i64 (Tm.findI l.row nm)) ∧ Below w.heap.size w w' := by
  have hcap : n ≤ cap := by rw [hn]; exact own_cap h.own
  have HH := Lib.hid h; have HBX := Lib.hid hb; have HN := Lib.hid hn
  clear h hb hn
  go_enter Tryz.func120, Tryz.ntmps120
  go_wp2_with fail
  go_loopw [8] (fun v8 wr => ∃ k : Nat, v8 = .int .i64 k ∧ k ≤ n ∧ Hid ((l.row.take k).findIdx? (Tm.called nm) = none) ∧ Hid (Below w.heap.size w wr)) (fun v8 _ => n - (intOf v8).toNat)
  case atStart => exact ⟨0, rfl, Nat.zero_le _, Lib.hid (by simp), Lib.hid (Below.refl _ _)⟩
  case round =>
    obtain ⟨k, rfl, hk, HQ, HB⟩ := hrel
    by_cases hlt : k < n
    · have hki : (k : Int) < (n : Int) := by omega
      have q1 : decide ((k : Int) < (n : Int)) = true := decide_eq_true hki
      have q2 : decide (k < n) = true := decide_eq_true hlt
      obtain ⟨x, rfl⟩ : ∃ x, ga = some x := by
        cases ga with
        | none => have := HH.out.own.of_none.1; rw [← HN.out] at this; omega
        | some x => exact ⟨x, rfl⟩
      obtain ⟨gb, rfl⟩ : ∃ gb, x = ⟨gb, 0, none⟩ := ⟨x.block, HH.out.own.row.1⟩
      obtain ⟨s, k0, k1, k4, k5, s3, b6, p8, a12, n12, c12, hs, hrow, hk0, hk4, hw4⟩ := (HH.out.up HB.out).cells k (by rw [← HN.out]; exact hlt)
      have HF := Lib.hid (found_one s k0 k1 k4 k5 s3 b6 p8 a12 n12 c12 sb nm wr hk0 hk4 (HBX.out.below HB.out HBX.out.lt))
      have HS := Lib.hid hs
      have c0 := hrow.cell 0 (by simp); have c1 := hrow.cell 1 (by simp); have c2 := hrow.cell 2 (by simp); have c3 := hrow.cell 3 (by simp); have c4 := hrow.cell 4 (by simp); have c5 := hrow.cell 5 (by simp); have c6 := hrow.cell 6 (by simp); have c7 := hrow.cell 7 (by simp); have c8 := hrow.cell 8 (by simp); have c9 := hrow.cell 9 (by simp); have c10 := hrow.cell 10 (by simp); have c11 := hrow.cell 11 (by simp); have c12 := hrow.cell 12 (by simp)
      simp only [itCells, List.getElem_cons_zero, List.getElem_cons_succ, Nat.add_zero] at c0 c1 c2 c3 c4 c5 c6 c7 c8 c9 c10 c11 c12
      clear hrow hs hk0 hk4 hw4
      go_wp2_with fail
      refine HF.out.mono ?_
      rintro e w2 ⟨rfl, hb2⟩
      have HB2 := Lib.hid (HB.out.trans (hb2.mono HB.out.size))
      cases hc : Tm.called nm s with
      | true =>
        have HC := Lib.hid hc
        clear hc hb2
        go_wp2_with fail
        go_ret
        refine ⟨?_, HB2.out⟩
        unfold Tm.findI
        rw [Tm.findIdx_at HQ.out HS.out HC.out]
        rfl
      | false =>
        have HC := Lib.hid hc
        clear hc hb2
        go_wp2_with fail
        go_roundw
        case rel => exact ⟨k + 1, by go_num, by omega, Lib.hid (Tm.findIdx_more HQ.out HS.out HC.out), HB2⟩
        case measure => simp [intOf]; omega
    · obtain rfl : k = n := by omega
      have hd : decide ((k : Int) < (k : Int)) = false := by simp
      have hd2 : decide (k < k) = false := by simp
      go_wp2_with fail
      go_ret
      refine ⟨?_, HB.out⟩
      have := HQ.out
      rw [HN.out, ← Tm.row_len, List.take_length] at this
      unfold Tm.findI
      rw [this]
      rfl
set_option maxRecDepth 100000 in
set_option maxHeartbeats 1000000 in
theorem find_any (V : World) (rb cap n : Nat) (l : Tm.Its) (ga : Option Addr) (bs : List Value) (nm : Tm.Wd) (w : World) (hn : n = Tm.Its.len l) (hn2 : n ≤ 100000) (h : ItV V w rb l ga cap bs) :
    Calls Tryz.prog 117 #[.slice ga n cap, .string (bstr nm)] w fun e w' => e = .returned (.int .i64 (Tm.findI l.row nm)) ∧ Below w.heap.size w w' := by
  have hbb := (Below.refl w.heap.size w).alloc (Nat.le_refl _) (.cells #[.string (bstr nm)] 9)
  have HI := Lib.hid (indexF V rb cap w.heap.size n l ga bs nm _ hn hn2 (h.up hbb) (RowAt.new w 9 #[.string (bstr nm)]))
  have HB := Lib.hid hbb
  clear h hbb hn
  go_enter Tryz.func117, Tryz.ntmps117
  go_wp2_with fail
  refine HI.out.mono ?_
  rintro e w2 ⟨rfl, hb2⟩
  have HB2 := Lib.hid (HB.out.trans (hb2.mono (by simp)))
  clear hb2
  go_wp2_with fail
  go_ret
  exact ⟨rfl, HB2.out⟩
end Go.Proofs.YtlomecfhobehnaaGreatDoor
end
