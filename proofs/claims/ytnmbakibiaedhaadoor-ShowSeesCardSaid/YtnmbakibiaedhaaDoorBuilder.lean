/- strings.Builder at this seat: copyCheck, WriteString (the shelf's laying of these two falls here: its own text of copyCheck names one type more). -/
import Derived.Test.YtnmbakibiaedhaaDoorChecked
import Derived.Test.YtnmbakibiaedhaaDoorMem
import Derived.Test.YtnmbakibiaedhaaDoorInfo
import Derived.Lib.Builder
import Derived.Lib.Strings
import Derived.Lib.AppendStr
import Derived.Lib.UnsafeStr
import Derived.Laws.Externs
namespace Go.Proofs.YtnmbakibiaedhaaDoor
open Go.RowKit
set_option linter.unusedVariables false
set_option linter.unusedSimpArgs false
/-- a builder in a block of the call's own -/
abbrev IsB (B b : Nat) (l : List UInt8) (w : World) : Prop := Lib.IsBuilder 105 5 B b (Lib.byteCells l) w
theorem Bd.size : (Tryd.prog.info? 105).map (·.size) = some 2 := by kernel_rfl
theorem Bd.lies : liesAt Tryd.prog Tryd.prog.depth 105 (2 / Tryd.prog.cellsOf 105) 0 105 1 = true := by kernel_rfl
theorem Bd.byte : (Tryd.prog.info? 5).map (fun i => (i.zero, i.size, i.bytes)) = some (some (.int .u8 0), 1, 1) := by kernel_rfl
set_option maxRecDepth 100000 in
theorem copyCheck_used (b : Nat) (w : World) (h0 : w.cell? ⟨b, 0, none⟩ = some (.pointer (some ⟨b, 0, none⟩))) :
    Calls Tryd.prog 87 #[.pointer (some ⟨b, 0, none⟩)] w fun e w' => e = .returned (.tuple #[]) ∧ w' = w := by
  obtain ⟨j, hj, _⟩ := Option.map_eq_some_iff.1 Bd.size
  go_enter Tryd.func87, Tryd.ntmps87
  go_wp2
  rw [Lib.run_neq_ptr_same w _ Tryd.underlying103 hj]
  go_wp2
  go_end0
  exact ⟨rfl, rfl⟩
set_option maxRecDepth 100000 in
theorem copyCheck_fresh (b : Nat) (w : World) (h0 : w.cell? ⟨b, 0, none⟩ = some (.pointer none)) (hsh : w.shape? b = some (105, 2)) (hfz : w.frozen? ⟨b, 0, none⟩ = false) :
    Calls Tryd.prog 87 #[.pointer (some ⟨b, 0, none⟩)] w fun e w' => e = .returned (.tuple #[]) ∧ w' = w.setCell ⟨b, 0, none⟩ (.pointer (some ⟨b, 0, none⟩)) := by
  obtain ⟨j, hj, hjs⟩ := Option.map_eq_some_iff.1 Bd.size
  go_enter Tryd.func87, Tryd.ntmps87
  go_wp2
  rw [Lib.run_to_unsafe w ⟨b, 0, none⟩ Tryd.underlying103 Tryd.underlying140 hj (by rw [hjs]; decide) hsh (Nat.zero_lt_succ 1)]
  simp only [Result.andThen]
  rw [Oper.upon_value]
  go_wp2
  rw [run_callFunc_extern Tryd.func109 (by kernel_rfl) (by kernel_rfl) (by kernel_rfl) (e := Extern.AbiNoEscape.same) (by kernel_rfl)]
  rw [Lib.run_noEscape]
  simp only [Result.andThen]
  rw [Oper.upon_value]
  go_wp2
  rw [Lib.run_from_unsafe w ⟨b, 0, none⟩ Tryd.underlying140 Tryd.underlying103 hj hsh Bd.lies]
  simp only [Result.andThen]
  rw [Oper.upon_value]
  go_wp2
  go_end0
  exact ⟨rfl, rfl⟩
theorem copyCheck_any (B b : Nat) (bs : List Value) (w : World) (h : Lib.IsBuilder 105 5 B b bs w) :
    Calls Tryd.prog 87 #[.pointer (some ⟨b, 0, none⟩)] w fun e w' => e = .returned (.tuple #[]) ∧ (Lib.BuilderAt 105 5 B b (.pointer (some ⟨b, 0, none⟩)) bs w' ∧ Below B w w' ∧ ∀ (g off : Nat) (e : TypeId) (xs : List Value), g ≠ b → RowAt w g off e xs → RowAt w' g off e xs) := by
  rcases h with h | h
  · refine (copyCheck_fresh b w h.cell0 h.shape h.frozen0).mono ?_
    rintro e w' ⟨rfl, rfl⟩
    exact ⟨rfl, h.used _, (Below.refl B w).setCell (p := ⟨b, 0, none⟩) h.1 _, fun g off e xs hg hr => hr.far hg _⟩
  · refine (copyCheck_used b w h.cell0).mono ?_
    rintro e w' ⟨rfl, rfl⟩
    exact ⟨rfl, h, Below.refl B _, fun _ _ _ _ _ hr => hr⟩
theorem byteCells_append (l m : List UInt8) : Lib.byteCells l ++ Lib.strCells (bstr m) = Lib.byteCells (l ++ m) := by
  simp [Lib.byteCells, Lib.strCells, bstr]
theorem byteCells_length (l : List UInt8) : (Lib.byteCells l).length = l.length := by simp [Lib.byteCells]
set_option maxRecDepth 100000 in
theorem WriteString_any (B b : Nat) (l m : List UInt8) (w : World) (h : IsB B b l w) (hlen : l.length + m.length ≤ 140737488355328) (hBw : B ≤ w.heap.size) :
    Calls Tryd.prog 53 #[.pointer (some ⟨b, 0, none⟩), .string (bstr m)] w fun e w' => e = .returned (.tuple #[.int .i64 m.length, .nilIface]) ∧ IsB B b (l ++ m) w' ∧ Below B w w' ∧ ∀ (g off : Nat) (e : TypeId) (xs : List Value), g ≠ b → e ≠ 5 → RowAt w g off e xs → RowAt w' g off e xs := by
  obtain ⟨i0, hi, hz0, hz1, hz2⟩ := info_parts Bd.byte
  go_enter Tryd.func53, Tryd.ntmps53
  go_wp2_with fail
  refine (copyCheck_any B b _ _ h).mono ?_
  rintro e w1 ⟨rfl, h1, hb1, hkeep1⟩
  have HK1 := Lib.hid hkeep1; clear hkeep1
  obtain ⟨hB, v, hbk, hown, hne⟩ := h1
  have c0 : w1.cell? ⟨b, 0, none⟩ = some (.pointer (some ⟨b, 0, none⟩)) := by rw [Lib.cell_of_heap hbk]; rfl
  have c1 : w1.cell? ⟨b, 1, none⟩ = some v := by rw [Lib.cell_of_heap hbk]; rfl
  have hml : (bstr m).size = m.length := bstr_size m
  go_wp2_with (at_builtin; refine Lib.wpList_append_own_string _ rfl _ _ 95 9 rfl B 5 i0 Tryd.underlying95 Tryd.underlying9 hi hz0 hz1 hz2 _ _ _ rfl hown (bstr m) rfl ?c3 ?c4 ?c5 ?_)
  case c3 => rw [hml, byteCells_length]; unfold maxLen; omega
  case c4 => rw [hml, byteCells_length]; omega
  case c5 => have := hb1.size; omega
  intro v' w2 hown' hgrow _
  have hlt : b < w1.heap.size := by
    rcases Nat.lt_or_ge b w1.heap.size with h' | h'
    · exact h'
    · simp [Array.getElem?_eq_none h'] at hbk
  have hb2 : w2.heap[b]? = some (.cells #[.pointer (some ⟨b, 0, none⟩), v] 105 (0, 0)) := by
    rw [hgrow.block b hlt (fun e => hne e.symm)]
    exact hbk
  have d0 : w2.cell? ⟨b, 0, none⟩ = some (.pointer (some ⟨b, 0, none⟩)) := by rw [Lib.cell_of_heap hb2]; rfl
  have d1 : w2.cell? ⟨b, 1, none⟩ = some v := by rw [Lib.cell_of_heap hb2]; rfl
  have f1 : w2.frozen? ⟨b, 1, none⟩ = false := Lib.frozen_of_heap hb2 1
  obtain ⟨ao, n', cap, rfl⟩ : ∃ ao n' cap, v' = .slice ao n' cap := by
    rcases hown'.2 with ⟨hv, _⟩ | ⟨g, cap, cur, hv, _⟩
    · exact ⟨_, _, _, hv⟩
    · exact ⟨_, _, _, hv⟩
  go_wp2_with fail
  go_ret2
  refine ⟨rfl, .inr ?_, ?_, fun g off e xs hg he hr => ?_⟩
  · rw [← byteCells_append]
    exact Lib.BuilderAt.put (T := 105) (e := 5) hB hb2 (bs' := Lib.byteCells l ++ Lib.strCells (bstr m)) (by simpa [Lib.strCells_length, hml] using hown') (by decide)
  · exact (hb1.grown hgrow (by have := hb1.size; omega) (fun k hk => (hown.lt k hk).1)).setCell (p := ⟨b, 1, none⟩) hB _
  · have hr1 := HK1.out g off e xs hg hr
    refine (hr1.of_heap (hgrow.block g hr1.lt fun hh => ?_)).far hg _
    rcases hown.2 with ⟨hv, _⟩ | ⟨g', cap', cur, hv, _, hcur, _⟩
    · rw [hv] at hh; simp [Value.ownBlock] at hh
    · rw [hv] at hh
      simp [Value.ownBlock] at hh
      subst hh
      obtain ⟨cur2, fz, h2, _⟩ := hr1
      rw [hcur] at h2
      injection h2 with h2
      injection h2 with h3 h4 h5
      exact he h4.symm
theorem IsB.fresh (w : World) : IsB w.heap.size w.heap.size [] (w.alloc (.cells #[.pointer none, .slice none 0 0] 105)) := .inl (by
  have := Lib.fresh_isBuilder 105 5 w
  rcases this with h | h
  · exact h
  · have := h.cell0
    simp at this)
/-- what lies beyond does not matter -/
theorem IsB.below {B b : Nat} {l : List UInt8} {w w' : World} (h : IsB B b l w) (hb : Below w.heap.size w w') : IsB B b l w' := by
  have key : ∀ p, Lib.BuilderAt 105 5 B b p (Lib.byteCells l) w → Lib.BuilderAt 105 5 B b p (Lib.byteCells l) w' := by
    intro p h
    have hlt := h.lt
    obtain ⟨hB, v, hbk, hown, hne⟩ := h
    refine ⟨hB, v, by rw [hb.block b hlt]; exact hbk, ?_, hne⟩
    refine ⟨hown.1, ?_⟩
    rcases hown.2 with h1 | ⟨g, cp, cur, h1, h2, h3, h4⟩
    · exact .inl h1
    · refine .inr ⟨g, cp, cur, h1, h2, ?_, h4⟩
      have hg : g < w.heap.size := by
        rcases Nat.lt_or_ge g w.heap.size with h' | h'
        · exact h'
        · rw [Array.getElem?_eq_none h'] at h3; cases h3
      rw [hb.block g hg]; exact h3
  rcases h with h | h
  · exact .inl (key _ h)
  · exact .inr (key _ h)
/-- nor what is written into a row of another type -/
theorem IsB.far {B b : Nat} {l : List UInt8} {w : World} (h : IsB B b l w) {g off : Nat} {e : TypeId} {xs : List Value} (hr : RowAt w g off e xs) (he : e ≠ 5) (hg : g ≠ b) (i : Nat) (u : Value) : IsB B b l (w.setCell ⟨g, i, none⟩ u) := by
  have key : ∀ p, Lib.BuilderAt 105 5 B b p (Lib.byteCells l) w → Lib.BuilderAt 105 5 B b p (Lib.byteCells l) (w.setCell ⟨g, i, none⟩ u) := by
    intro p h
    obtain ⟨hB, v, hbk, hown, hne⟩ := h
    refine ⟨hB, v, (Below.heap_setCell w ⟨g, i, none⟩ u b (fun e => hg e.symm)).trans hbk, ?_, hne⟩
    refine ⟨hown.1, ?_⟩
    rcases hown.2 with h1 | ⟨g', cp, cur, h1, h2, h3, h4⟩
    · exact .inl h1
    · refine .inr ⟨g', cp, cur, h1, h2, (Below.heap_setCell w ⟨g, i, none⟩ u g' (fun e' => ?_)).trans h3, h4⟩
      have e2 : g' = g := e'
      subst e2
      obtain ⟨cur2, fz, h5, _⟩ := hr
      rw [h3] at h5
      injection h5 with h5
      injection h5 with h6 h7 h8
      exact he h7.symm
  rcases h with h | h
  · exact .inl (key _ h)
  · exact .inr (key _ h)
theorem IsB.lt {B b : Nat} {l : List UInt8} {w : World} (h : IsB B b l w) : b < w.heap.size := by
  rcases h with h | h
  · exact h.lt
  · exact h.lt
end Go.Proofs.YtnmbakibiaedhaaDoor
