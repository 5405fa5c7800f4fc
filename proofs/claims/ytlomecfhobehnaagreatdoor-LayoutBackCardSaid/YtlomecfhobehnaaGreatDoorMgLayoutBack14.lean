/- Items in memory. -/
import Derived.Test.YtlomecfhobehnaaGreatDoorMgLayoutBack13
import Derived.Test.YtlomecfhobehnaaGreatDoorMgLayoutBack11
section
/- Contract of tmpl.rule. -/
namespace Go.Proofs.YtlomecfhobehnaaGreatDoor
open Go.RowKit
set_option linter.unusedVariables false
set_option linter.unusedSimpArgs false
open Rd
namespace Rd
theorem Rdr.setX {w : World} {rb xb k : Nat} {R : List Tok} {E : Nat} (h : Rdr w rb R E) (hx : rb < xb) (v : Value) : Rdr (w.setCell ⟨xb, k, none⟩ v) rb R E := by
  obtain ⟨a, c, h1, h2, h3⟩ := h
  have hh : ∀ b, b ≤ rb → (w.setCell ⟨xb, k, none⟩ v).heap[b]? = w.heap[b]? := fun b hb => Below.heap_setCell w ⟨xb, k, none⟩ v b (by show b ≠ xb; omega)
  refine ⟨a, c, h1.of_heap (hh rb (Nat.le_refl _)), h2, ?_⟩
  rcases h3 with h | ⟨g, off, e1, e2, e3⟩
  · exact .inl h
  · refine .inr ⟨g, off, e1, e2, fun j hj => ?_⟩
    have hb := hh g (Nat.le_of_lt e2)
    exact ⟨(World.cell?_of_block (a := ⟨g, off + j * 2, none⟩) hb).trans (e3 j hj).1, (World.cell?_of_block (a := ⟨g, off + j * 2 + 1, none⟩) hb).trans (e3 j hj).2⟩
/-- what has grown since w0, but for the reader and what is younger -/
theorem up_setX {w0 w : World} {rb xb k : Nat} (h : w0.grownBy w (some rb)) (hx : w0.heap.size ≤ xb) (v : Value) : w0.grownBy (w.setCell ⟨xb, k, none⟩ v) (some rb) :=
  ⟨h.os, h.tape, h.output, by rw [World.size_setCell]; exact h.size, fun i hi hne => (Below.heap_setCell w ⟨xb, k, none⟩ v i (by show i ≠ xb; omega)).trans (h.block i hi hne)⟩
theorem Bad.up {w0 w : World} {rb : Nat} {e : Ending} {w' : World} (hg : w0.grownBy w (some rb)) (h : Bad w rb e w') : Bad w0 rb e w' := by
  obtain ⟨g, en, p, h1, h2, h3, h4⟩ := h
  exact ⟨g, en, p, h1, h2, Nat.le_trans hg.size h3, grownBy_trans hg h4⟩
end Rd
set_option maxRecDepth 100000 in
theorem Pass_none (rb : Nat) (E : Nat) (w : World) (h : Rdr w rb [] E) :
    Calls Tryz.prog 88 #[.pointer (some ⟨rb, 0, none⟩)] w (Bad w rb) := by
  have HT := Lib.hid (Text_any rb [] E w h)
  have HA := Lib.hid (At_any rb [] E w h)
  have hto : textOf ([] : List Tok) = [] := rfl
  rw [hto] at HT
  generalize Ex.atOf E [] = at_ at *
  have hF := Fail_any rb 3 at_ w
  unfold thrown at hF
  have HF := Lib.hid hF
  unfold Bad thrown
  clear h hto hF
  go_enter Tryz.func88, Tryz.ntmps88
  go_wp2_with fail
  refine HT.out.mono ?_
  rintro e w1 ⟨rfl, rfl⟩
  go_wp2_with fail
  refine HA.out.mono ?_
  rintro e w2 ⟨rfl, rfl⟩
  go_wp2_with fail
  refine HF.out.mono ?_
  rintro e w3 ⟨rfl, h1, h2⟩
  go_wp2_with fail
  exact ⟨rfl, _, 3, at_, rfl, h1, Nat.le_refl _, below_grown h2 _⟩
def ruleV : Tm.Rl → Nat × Tm.Wd × Tm.Wd
  | .none => (0, [], [])
  | .size f => (1, f, [])
  | .count f => (2, f, [])
  | .check f l => (3, f, l)
/-- an item's cells, all but those of its rule -/
structure C10 where
  c0 : Value
  c1 : Value
  c2 : Value
  c3 : Value
  c4 : Value
  c5 : Value
  c6 : Value
  c7 : Value
  c8 : Value
  c12 : Value
def C10.row (c : C10) (r : Nat) (f l : Tm.Wd) : List Value := [c.c0, c.c1, c.c2, c.c3, c.c4, c.c5, c.c6, c.c7, c.c8, .int .i64 (r : Nat), .string (bstr f), .string (bstr l), c.c12]
structure RuSt (w0 w : World) (rb xb E : Nat) (R : List Rd.Tok) (c : C10) (r : Nat) (f l : Tm.Wd) : Prop where
  gr : w0.grownBy w (some rb)
  lo : w0.heap.size ≤ xb
  lt : rb < xb
  rd : Rdr w rb R E
  row : RowAt w xb 0 70 (c.row r f l)
section
variable {w0 w w' : World} {rb xb E r : Nat} {R R' : List Rd.Tok} {c : C10} {f l : Tm.Wd}
theorem RuSt.move (h : RuSt w0 w rb xb E R c r f l) (hr : Rdr w' rb R' E) (hg : w.grownBy w' (some rb)) : RuSt w0 w' rb xb E R' c r f l :=
  ⟨grownBy_trans h.gr hg, h.lo, h.lt, hr, h.row.of_heap (hg.block xb h.row.lt (fun e => by injection e with e; have := h.lt; omega))⟩
theorem RuSt.set9 (h : RuSt w0 w rb xb E R c r f l) (v : Nat) : RuSt w0 (w.setCell ⟨xb, 9, none⟩ (.int .i64 (v : Nat))) rb xb E R c v f l :=
  ⟨up_setX h.gr h.lo _, h.lo, h.lt, h.rd.setX h.lt _, h.row.set0 9 (by simp [C10.row]) _⟩
theorem RuSt.set10 (h : RuSt w0 w rb xb E R c r f l) (v : Tm.Wd) : RuSt w0 (w.setCell ⟨xb, 10, none⟩ (.string (bstr v))) rb xb E R c r v l :=
  ⟨up_setX h.gr h.lo _, h.lo, h.lt, h.rd.setX h.lt _, h.row.set0 10 (by simp [C10.row]) _⟩
theorem RuSt.set11 (h : RuSt w0 w rb xb E R c r f l) (v : Tm.Wd) : RuSt w0 (w.setCell ⟨xb, 11, none⟩ (.string (bstr v))) rb xb E R c r f v :=
  ⟨up_setX h.gr h.lo _, h.lo, h.lt, h.rd.setX h.lt _, h.row.set0 11 (by simp [C10.row]) _⟩
theorem RuSt.cells (h : RuSt w0 w rb xb E R c r f l) : w.cell? ⟨xb, 9, none⟩ = some (.int .i64 (r : Nat)) ∧ w.cell? ⟨xb, 10, none⟩ = some (.string (bstr f)) ∧ w.cell? ⟨xb, 11, none⟩ = some (.string (bstr l)) ∧ w.frozen? ⟨xb, 9, none⟩ = false ∧ w.frozen? ⟨xb, 10, none⟩ = false ∧ w.frozen? ⟨xb, 11, none⟩ = false :=
  ⟨h.row.cell0 9 (by simp [C10.row]), h.row.cell0 10 (by simp [C10.row]), h.row.cell0 11 (by simp [C10.row]), h.row.frozen0 9 (by simp [C10.row]), h.row.frozen0 10 (by simp [C10.row]), h.row.frozen0 11 (by simp [C10.row])⟩
end
end Go.Proofs.YtlomecfhobehnaaGreatDoor
end
section
/- Contract of tmpl.rule: size, count. -/
namespace Go.Proofs.YtlomecfhobehnaaGreatDoor
open Go.RowKit
set_option linter.unusedVariables false
set_option linter.unusedSimpArgs false
open Rd
set_option maxRecDepth 100000 in
set_option maxHeartbeats 1000000 in
theorem rule_size (w0 w : World) (rb xb E : Nat) (t : Rd.Tok) (R1 : List Rd.Tok) (c : C10) (st : RuSt w0 w rb xb E (t :: R1) c 0 [] []) (ht : t.1 = Tm.wSize) (hsz : (Tm.textOf R1).length ≤ 100000) :
    Calls Tryz.prog 114 #[.pointer (some ⟨rb, 0, none⟩), .pointer (some ⟨xb, 0, none⟩)] w fun e w' => (∃ u R2, R1 = u :: R2 ∧ Tm.nameB u.1 = true ∧ e = .returned (.tuple #[]) ∧ RuSt w0 w' rb xb E R2 c 1 u.1 []) ∨ (Tm.nameB (Tm.textOf R1) = false ∧ Bad w0 rb e w') := by
  have HA := Lib.hid (At_any rb (t :: R1) E w st.rd)
  have hP := Pass_any rb t R1 E w st.rd (by rw [ht]; decide)
  rw [ht] at hP
  have HP := Lib.hid hP
  have q1 : (Tm.wSize == [115, 105, 122, 101]) = true := by decide
  have q2 : (Tm.wSize == [99, 111, 117, 110, 116]) = false := by decide
  have HST := Lib.hid st
  have HSZ := Lib.hid hsz
  generalize Ex.atOf E (t :: R1) = at_ at *
  clear st ht hP hsz
  go_enter Tryz.func114, Tryz.ntmps114
  go_wp2_with fail
  refine HA.out.mono ?_
  rintro e w1 ⟨rfl, rfl⟩
  go_wp2_with fail
  refine HP.out.mono ?_
  rintro e w2 ⟨rfl, hr2, hg2⟩
  have HS2 := Lib.hid (HST.out.move hr2 hg2)
  obtain ⟨k9, k10, k11, f9, f10, f11⟩ := HS2.out.cells
  clear hr2 hg2 HP HA HST k10 k11 f10 f11
  go_wp2_with fail
  have HS3 := Lib.hid (HS2.out.set9 1)
  by_cases hn : Tm.nameB (Tm.textOf R1) = true
  · obtain ⟨u, R2, rfl⟩ : ∃ u R2, R1 = u :: R2 := by
      cases R1 with
      | nil => exact absurd hn (by decide)
      | cons u R2 => exact ⟨u, R2, rfl⟩
    refine (name_yes rb u R2 E _ HS3.out.rd hn).mono ?_
    rintro e w4 ⟨rfl, hr4, hg4⟩
    have HS4 := Lib.hid (HS3.out.move hr4 hg4)
    obtain ⟨k9, k10, k11, f9, f10, f11⟩ := HS4.out.cells
    have HS5 := Lib.hid (HS4.out.set10 u.1)
    obtain ⟨m9, m10, m11, _⟩ := HS5.out.cells
    have HN := Lib.hid hn
    clear hr4 hg4 HS2 HS3 hn k11 f11
    go_wp2_with fail
    go_end0
    exact .inl ⟨u, R2, rfl, HN.out, rfl, HS5.out⟩
  · have hn2 : Tm.nameB (Tm.textOf R1) = false := by simpa using hn
    have hx := name_no rb R1 E _ HS3.out.rd hn2 HSZ.out
    have hb : ∀ e w', Bad (w2.setCell ⟨xb, 9, none⟩ (.int .i64 1)) rb e w' → Bad w0 rb e w' := fun e w' h => Bad.up HS3.out.gr h
    have HX := Lib.hid (hx.mono hb)
    have HN := Lib.hid hn2
    unfold Bad thrown at HX
    clear hn hn2 hx hb
    refine HX.out.mono ?_
    rintro e w4 ⟨g, en, p, rfl, h1, h2, h3⟩
    go_wp2_with fail
    exact ⟨rfl, .inr ⟨HN.out, g, en, p, rfl, h1, h2, h3⟩⟩
set_option maxRecDepth 100000 in
set_option maxHeartbeats 1000000 in
theorem rule_count (w0 w : World) (rb xb E : Nat) (t : Rd.Tok) (R1 : List Rd.Tok) (c : C10) (st : RuSt w0 w rb xb E (t :: R1) c 0 [] []) (ht : t.1 = Tm.wCount) (hsz : (Tm.textOf R1).length ≤ 100000) :
    Calls Tryz.prog 114 #[.pointer (some ⟨rb, 0, none⟩), .pointer (some ⟨xb, 0, none⟩)] w fun e w' => (∃ u R2, R1 = u :: R2 ∧ Tm.nameB u.1 = true ∧ e = .returned (.tuple #[]) ∧ RuSt w0 w' rb xb E R2 c 2 u.1 []) ∨ (Tm.nameB (Tm.textOf R1) = false ∧ Bad w0 rb e w') := by
  have HA := Lib.hid (At_any rb (t :: R1) E w st.rd)
  have hP := Pass_any rb t R1 E w st.rd (by rw [ht]; decide)
  rw [ht] at hP
  have HP := Lib.hid hP
  have q1 : (Tm.wCount == [115, 105, 122, 101]) = false := by decide
  have q2 : (Tm.wCount == [99, 111, 117, 110, 116]) = true := by decide
  have HST := Lib.hid st
  have HSZ := Lib.hid hsz
  generalize Ex.atOf E (t :: R1) = at_ at *
  clear st ht hP hsz
  go_enter Tryz.func114, Tryz.ntmps114
  go_wp2_with fail
  refine HA.out.mono ?_
  rintro e w1 ⟨rfl, rfl⟩
  go_wp2_with fail
  refine HP.out.mono ?_
  rintro e w2 ⟨rfl, hr2, hg2⟩
  have HS2 := Lib.hid (HST.out.move hr2 hg2)
  obtain ⟨k9, k10, k11, f9, f10, f11⟩ := HS2.out.cells
  clear hr2 hg2 HP HA HST k10 k11 f10 f11
  go_wp2_with fail
  have HS3 := Lib.hid (HS2.out.set9 2)
  by_cases hn : Tm.nameB (Tm.textOf R1) = true
  · obtain ⟨u, R2, rfl⟩ : ∃ u R2, R1 = u :: R2 := by
      cases R1 with
      | nil => exact absurd hn (by decide)
      | cons u R2 => exact ⟨u, R2, rfl⟩
    refine (name_yes rb u R2 E _ HS3.out.rd hn).mono ?_
    rintro e w4 ⟨rfl, hr4, hg4⟩
    have HS4 := Lib.hid (HS3.out.move hr4 hg4)
    obtain ⟨k9, k10, k11, f9, f10, f11⟩ := HS4.out.cells
    have HS5 := Lib.hid (HS4.out.set10 u.1)
    obtain ⟨m9, m10, m11, _⟩ := HS5.out.cells
    have HN := Lib.hid hn
    clear hr4 hg4 HS2 HS3 hn k11 f11
    go_wp2_with fail
    go_end0
    exact .inl ⟨u, R2, rfl, HN.out, rfl, HS5.out⟩
  · have hn2 : Tm.nameB (Tm.textOf R1) = false := by simpa using hn
    have hx := name_no rb R1 E _ HS3.out.rd hn2 HSZ.out
    have hb : ∀ e w', Bad (w2.setCell ⟨xb, 9, none⟩ (.int .i64 2)) rb e w' → Bad w0 rb e w' := fun e w' h => Bad.up HS3.out.gr h
    have HX := Lib.hid (hx.mono hb)
    have HN := Lib.hid hn2
    unfold Bad thrown at HX
    clear hn hn2 hx hb
    refine HX.out.mono ?_
    rintro e w4 ⟨g, en, p, rfl, h1, h2, h3⟩
    go_wp2_with fail
    exact ⟨rfl, .inr ⟨HN.out, g, en, p, rfl, h1, h2, h3⟩⟩
end Go.Proofs.YtlomecfhobehnaaGreatDoor
end
section
/- Contract of tmpl.rule: check, and what is no rule. -/
namespace Go.Proofs.YtlomecfhobehnaaGreatDoor
open Go.RowKit
set_option linter.unusedVariables false
set_option linter.unusedSimpArgs false
open Rd
set_option maxRecDepth 100000 in
set_option maxHeartbeats 1000000 in
theorem rule_check (w0 w : World) (rb xb E : Nat) (t : Rd.Tok) (R1 : List Rd.Tok) (c : C10) (st : RuSt w0 w rb xb E (t :: R1) c 0 [] []) (ht : t.1 = Tm.wCheck) (hsz : ∀ u ∈ R1, u.1.length ≤ 100000) :
    Calls Tryz.prog 114 #[.pointer (some ⟨rb, 0, none⟩), .pointer (some ⟨xb, 0, none⟩)] w fun e w' => (∃ l R3, Tm.RuleP (t :: R1) (.check (Tm.textOf R1) l) R3 ∧ e = .returned (.tuple #[]) ∧ RuSt w0 w' rb xb E R3 c 3 (Tm.textOf R1) l) ∨ ((∀ r R, ¬ Tm.RuleP (t :: R1) r R) ∧ Bad w0 rb e w') := by
  have HTW := Lib.hid ht
  have HA := Lib.hid (At_any rb (t :: R1) E w st.rd)
  have hP := Pass_any rb t R1 E w st.rd (by rw [ht]; decide)
  rw [ht] at hP
  have HP := Lib.hid hP
  have q1 : (Tm.wCheck == [115, 105, 122, 101]) = false := by decide
  have q2 : (Tm.wCheck == [99, 111, 117, 110, 116]) = false := by decide
  have q3 : (Tm.wCheck == [99, 104, 101, 99, 107]) = true := by decide
  have HST := Lib.hid st
  have HSZ := Lib.hid hsz
  have hnot : ∀ (r : Tm.Rl) (R : List Rd.Tok), Tm.RuleP (t :: R1) r R → ∃ u R2, R1 = u :: R2 ∧ Tm.nameB u.1 = true ∧ ((Tm.textOf R2 = [59]) ∨ Tm.nameB (Tm.textOf R2) = true) := by
    intro r R h
    cases h with
    | size h1 => rw [ht] at h1; exact absurd h1 (by decide)
    | count h1 => rw [ht] at h1; exact absurd h1 (by decide)
    | check1 _ h2 h3 => exact ⟨_, _, rfl, h2, .inl h3⟩
    | check2 _ h2 _ h4 => exact ⟨_, _, rfl, h2, .inr h4⟩
  have HNOT := Lib.hid hnot
  generalize Ex.atOf E (t :: R1) = at_ at *
  clear st ht hP hsz hnot
  go_enter Tryz.func114, Tryz.ntmps114
  go_wp2_with fail
  refine HA.out.mono ?_
  rintro e w1 ⟨rfl, rfl⟩
  go_wp2_with fail
  refine HP.out.mono ?_
  rintro e w2 ⟨rfl, hr2, hg2⟩
  have HS2 := Lib.hid (HST.out.move hr2 hg2)
  obtain ⟨k9, k10, k11, f9, f10, f11⟩ := HS2.out.cells
  clear hr2 hg2 HP HA HST k10 k11 f10 f11
  go_wp2_with fail
  have HS3 := Lib.hid (HS2.out.set9 3)
  by_cases hn : Tm.nameB (Tm.textOf R1) = true
  · obtain ⟨u, R2, rfl⟩ : ∃ u R2, R1 = u :: R2 := by
      cases R1 with
      | nil => exact absurd hn (by decide)
      | cons u R2 => exact ⟨u, R2, rfl⟩
    refine (name_yes rb u R2 E _ HS3.out.rd hn).mono ?_
    rintro e w4 ⟨rfl, hr4, hg4⟩
    have HS4 := Lib.hid (HS3.out.move hr4 hg4)
    obtain ⟨k9, k10, k11, f9, f10, f11⟩ := HS4.out.cells
    have HS5 := Lib.hid (HS4.out.set10 u.1)
    obtain ⟨m9, m10, m11, _, _, g11⟩ := HS5.out.cells
    have HS6 := Lib.hid (HS5.out.set11 u.1)
    have HT6 := Lib.hid (Text_any rb R2 E _ HS6.out.rd)
    rw [show textOf R2 = Tm.textOf R2 by cases R2 <;> rfl] at HT6
    have HN := Lib.hid hn
    clear hr4 hg4 HS2 HS3 HS4 HS5 hn f11
    go_wp2_with fail
    refine HT6.out.mono ?_
    rintro e w6 ⟨rfl, rfl⟩
    by_cases hsc : Tm.textOf R2 = [59]
    · have n1 : (Tm.textOf R2 == [59]) = true := by rw [beq_iff_eq]; exact hsc
      have n2 : (Tm.textOf R2 != [59]) = false := by rw [bne, n1]; rfl
      have HSC := Lib.hid hsc
      clear hsc
      go_wp2_with fail
      go_end0
      exact .inl ⟨u.1, R2, .check1 HTW.out HN.out HSC.out, rfl, HS6.out⟩
    · have n1 : (Tm.textOf R2 == [59]) = false := by rw [beq_eq_false_iff_ne]; exact hsc
      have n2 : (Tm.textOf R2 != [59]) = true := by rw [bne, n1]; rfl
      have HSC := Lib.hid hsc
      clear hsc
      go_wp2_with fail
      by_cases hn2 : Tm.nameB (Tm.textOf R2) = true
      · obtain ⟨v, R3, rfl⟩ : ∃ v R3, R2 = v :: R3 := by
          cases R2 with
          | nil => exact absurd hn2 (by decide)
          | cons v R3 => exact ⟨v, R3, rfl⟩
        refine (name_yes rb v R3 E _ HS6.out.rd hn2).mono ?_
        rintro e w7 ⟨rfl, hr7, hg7⟩
        have HS7 := Lib.hid (HS6.out.move hr7 hg7)
        obtain ⟨p9, p10, p11, _, _, e11⟩ := HS7.out.cells
        have HS8 := Lib.hid (HS7.out.set11 v.1)
        have HN2 := Lib.hid hn2
        clear hr7 hg7 HS6 HS7 hn2
        go_wp2_with fail
        go_end0
        exact .inl ⟨v.1, R3, .check2 HTW.out HN.out HSC.out HN2.out, rfl, HS8.out⟩
      · have hn3 : Tm.nameB (Tm.textOf R2) = false := by simpa using hn2
        have hx := name_no rb R2 E _ HS6.out.rd hn3 (by
          cases R2 with
          | nil => simp [Tm.textOf]
          | cons v R3 => exact HSZ.out v (by simp))
        have HX := Lib.hid (hx.mono fun e w' h => Bad.up HS6.out.gr h)
        have HN3 := Lib.hid hn3
        unfold Bad thrown at HX
        clear hn2 hn3 hx
        refine HX.out.mono ?_
        rintro e w7 ⟨g, en, p, rfl, h1, h2, h3⟩
        go_wp2_with fail
        refine ⟨rfl, .inr ⟨?_, g, en, p, rfl, h1, h2, h3⟩⟩
        intro r R h
        obtain ⟨u', R2', e1, h4, h5⟩ := HNOT.out r R h
        cases e1
        rcases h5 with h5 | h5
        · exact HSC.out h5
        · rw [HN3.out] at h5; cases h5
  · have hn2 : Tm.nameB (Tm.textOf R1) = false := by simpa using hn
    have hx := name_no rb R1 E _ HS3.out.rd hn2 (by
      cases R1 with
      | nil => simp [Tm.textOf]
      | cons u R2 => exact HSZ.out u (by simp))
    have hb : ∀ e w', Bad (w2.setCell ⟨xb, 9, none⟩ (.int .i64 3)) rb e w' → Bad w0 rb e w' := fun e w' h => Bad.up HS3.out.gr h
    have HX := Lib.hid (hx.mono hb)
    have HN := Lib.hid hn2
    unfold Bad thrown at HX
    clear hn hn2 hx hb
    refine HX.out.mono ?_
    rintro e w4 ⟨g, en, p, rfl, h1, h2, h3⟩
    go_wp2_with fail
    refine ⟨rfl, .inr ⟨?_, g, en, p, rfl, h1, h2, h3⟩⟩
    intro r R h
    obtain ⟨u, R2, rfl, h4, _⟩ := HNOT.out r R h
    have := HN.out
    rw [show Tm.textOf (u :: R2) = u.1 from rfl, h4] at this
    cases this
set_option maxRecDepth 100000 in
set_option maxHeartbeats 1000000 in
theorem rule_else (w0 w : World) (rb xb E : Nat) (T : List Rd.Tok) (c : C10) (st : RuSt w0 w rb xb E T c 0 [] []) (hne : ∀ t ∈ T, t.1 ≠ []) (h1 : Tm.textOf T ≠ Tm.wSize) (h2 : Tm.textOf T ≠ Tm.wCount) (h3 : Tm.textOf T ≠ Tm.wCheck) :
    Calls Tryz.prog 114 #[.pointer (some ⟨rb, 0, none⟩), .pointer (some ⟨xb, 0, none⟩)] w fun e w' => (∀ r R, ¬ Tm.RuleP T r R) ∧ Bad w0 rb e w' := by
  have hnot : ∀ r R, ¬ Tm.RuleP T r R := by
    intro r R h
    cases h with
    | size g => exact h1 g
    | count g => exact h2 g
    | check1 g => exact h3 g
    | check2 g => exact h3 g
  have HNOT := Lib.hid hnot
  have HA := Lib.hid (At_any rb T E w st.rd)
  cases T with
  | nil =>
    have hx := Pass_none rb E w st.rd
    have HX := Lib.hid (hx.mono fun e w' h => Bad.up st.gr h)
    generalize Ex.atOf E [] = at_ at *
    unfold Bad thrown at HX
    unfold Bad thrown
    clear st hnot h1 h2 h3 hx hne
    go_enter Tryz.func114, Tryz.ntmps114
    go_wp2_with fail
    refine HA.out.mono ?_
    rintro e w1 ⟨rfl, rfl⟩
    go_wp2_with fail
    refine HX.out.mono ?_
    rintro e w2 ⟨g, en, p, rfl, g1, g2, g3⟩
    go_wp2_with fail
    exact ⟨rfl, HNOT.out, g, en, p, rfl, g1, g2, g3⟩
  | cons t R1 =>
    have hP := Pass_any rb t R1 E w st.rd (hne t (by simp))
    have HP := Lib.hid hP
    have q1 : (t.1 == [115, 105, 122, 101]) = false := by rw [beq_eq_false_iff_ne]; exact h1
    have q2 : (t.1 == [99, 111, 117, 110, 116]) = false := by rw [beq_eq_false_iff_ne]; exact h2
    have q3 : (t.1 == [99, 104, 101, 99, 107]) = false := by rw [beq_eq_false_iff_ne]; exact h3
    have HGR := Lib.hid st.gr
    generalize Ex.atOf E (t :: R1) = at_ at *
    have hF := fun V => Fail_any rb 3 at_ V
    unfold thrown at hF
    have HF := Lib.hid hF
    unfold Bad thrown
    generalize t.1 = s at *
    clear st hnot h1 h2 h3 hne hP hF
    go_enter Tryz.func114, Tryz.ntmps114
    go_wp2_with fail
    refine HA.out.mono ?_
    rintro e w1 ⟨rfl, rfl⟩
    go_wp2_with fail
    refine HP.out.mono ?_
    rintro e w2 ⟨rfl, hr2, hg2⟩
    have HG2 := Lib.hid (grownBy_trans HGR.out hg2)
    clear hr2 hg2
    go_wp2_with fail
    refine (HF.out _).mono ?_
    rintro e w3 ⟨rfl, g1, g2⟩
    go_wp2_with fail
    exact ⟨rfl, HNOT.out, _, 3, at_, rfl, g1, HG2.out.size, grownBy_trans HG2.out (below_grown g2 _)⟩
end Go.Proofs.YtlomecfhobehnaaGreatDoor
end
section
/- Contract of tmpl.rule. -/
namespace Go.Proofs.YtlomecfhobehnaaGreatDoor
open Go.RowKit
set_option linter.unusedVariables false
set_option linter.unusedSimpArgs false
open Rd
/-- tokens as lex makes them -/
def Toks (T : List Rd.Tok) : Prop := ∀ t ∈ T, t.1 ≠ [] ∧ t.1.length ≤ 100000
theorem Toks.suf {T R : List Rd.Tok} (h : Toks T) (hs : R <:+ T) : Toks R := fun t ht => h t (hs.subset ht)
theorem Toks.text {T : List Rd.Tok} (h : Toks T) : (Tm.textOf T).length ≤ 100000 := by
  cases T with
  | nil => simp [Tm.textOf]
  | cons t T => exact (h t (by simp)).2
theorem rule_any (w0 w : World) (rb xb E : Nat) (T : List Rd.Tok) (c : C10) (st : RuSt w0 w rb xb E T c 0 [] []) (hT : Toks T) :
    Calls Tryz.prog 114 #[.pointer (some ⟨rb, 0, none⟩), .pointer (some ⟨xb, 0, none⟩)] w fun e w' => (∃ r R, Tm.RuleP T r R ∧ e = .returned (.tuple #[]) ∧ RuSt w0 w' rb xb E R c (ruleV r).1 (ruleV r).2.1 (ruleV r).2.2) ∨ ((∀ r R, ¬ Tm.RuleP T r R) ∧ Bad w0 rb e w') := by
  by_cases h1 : Tm.textOf T = Tm.wSize
  · cases T with
    | nil => exact absurd h1 (by decide)
    | cons t R1 =>
      refine (rule_size w0 w rb xb E t R1 c st h1 (hT.suf (List.suffix_cons _ _)).text).mono ?_
      rintro e w' (⟨u, R2, rfl, g1, g2, g3⟩ | ⟨g1, g2⟩)
      · exact .inl ⟨.size u.1, R2, .size h1 g1, g2, g3⟩
      · refine .inr ⟨?_, g2⟩
        intro r R h
        cases h with
        | size _ k => exact absurd (k.symm.trans g1) (by decide)
        | count k => rw [show t.1 = Tm.wSize from h1] at k; exact absurd k (by decide)
        | check1 k => rw [show t.1 = Tm.wSize from h1] at k; exact absurd k (by decide)
        | check2 k => rw [show t.1 = Tm.wSize from h1] at k; exact absurd k (by decide)
  · by_cases h2 : Tm.textOf T = Tm.wCount
    · cases T with
      | nil => exact absurd h2 (by decide)
      | cons t R1 =>
        refine (rule_count w0 w rb xb E t R1 c st h2 (hT.suf (List.suffix_cons _ _)).text).mono ?_
        rintro e w' (⟨u, R2, rfl, g1, g2, g3⟩ | ⟨g1, g2⟩)
        · exact .inl ⟨.count u.1, R2, .count h2 g1, g2, g3⟩
        · refine .inr ⟨?_, g2⟩
          intro r R h
          cases h with
          | count _ k => exact absurd (k.symm.trans g1) (by decide)
          | size k => rw [show t.1 = Tm.wCount from h2] at k; exact absurd k (by decide)
          | check1 k => rw [show t.1 = Tm.wCount from h2] at k; exact absurd k (by decide)
          | check2 k => rw [show t.1 = Tm.wCount from h2] at k; exact absurd k (by decide)
    · by_cases h3 : Tm.textOf T = Tm.wCheck
      · cases T with
        | nil => exact absurd h3 (by decide)
        | cons t R1 =>
          refine (rule_check w0 w rb xb E t R1 c st h3 (fun u hu => (hT u (by simp [hu])).2)).mono ?_
          rintro e w' (⟨l, R3, g1, g2, g3⟩ | g)
          · exact .inl ⟨_, R3, g1, g2, g3⟩
          · exact .inr g
      · exact (rule_else w0 w rb xb E T c st (fun t ht => (hT t ht).1) h1 h2 h3).mono fun e w' h => .inr h
end Go.Proofs.YtlomecfhobehnaaGreatDoor
end
section
/- expr.Read and Must, told as a choice. -/
namespace Go.Proofs.YtlomecfhobehnaaGreatDoor
open Go.RowKit
set_option linter.unusedVariables false
set_option linter.unusedSimpArgs false
open Rd
theorem exprRead_any (w : World) (rb E : Nat) (T : List Rd.Tok) (he : Env w rb) (hr : Rdr w rb T E) (hT : Toks T) :
    Calls Tryz.prog 113 #[.pointer (some ⟨rb, 0, none⟩), .int .i64 0] w fun e w' => (∃ x R b, Tm.ParT E T x R ∧ e = .returned (.pointer (some ⟨b, 0, none⟩)) ∧ IsX w' rb b x ∧ Rdr w' rb R E ∧ w.grownBy w' (some rb)) ∨ ((∀ x R, ¬ Tm.ParT E T x R) ∧ Bad w rb e w') := by
  obtain ⟨o, ho⟩ := Ex.total (num := Num.numOf) (E := E) T.length T 0 (Nat.le_refl _) (fun t ht => (hT t ht).1) (by omega) 0 (by omega)
  have h := Read_any ho rb (fun t ht => (hT t ht).2) w he hr
  refine Calls.mono h ?_
  intro e w' hp
  cases o with
  | ok x R =>
    obtain ⟨b, h1, h2, h3, h4⟩ := hp
    exact .inl ⟨x, R, b, ho, h1, h2, h3, h4⟩
  | bad en p =>
    obtain ⟨g, h1, h2, h3, h4⟩ := hp
    refine .inr ⟨?_, g, en, p, h1, h2, h3, h4⟩
    intro x R h9
    have := Tm.Par.det ho _ h9
    cases this
/-- a mark that must come -/
theorem must_any (w : World) (rb E : Nat) (T : List Rd.Tok) (m : Tm.Wd) (hm : m ≠ []) (hr : Rdr w rb T E) :
    Calls Tryz.prog 53 #[.pointer (some ⟨rb, 0, none⟩), .string (bstr m)] w fun e w' => (∃ t R, T = t :: R ∧ t.1 = m ∧ e = .returned (.tuple #[]) ∧ Rdr w' rb R E ∧ w.grownBy w' (some rb)) ∨ (Tm.textOf T ≠ m ∧ Bad w rb e w') := by
  have hto : textOf T = Tm.textOf T := by cases T <;> rfl
  by_cases h : Tm.textOf T = m
  · cases T with
    | nil => exact absurd h.symm hm
    | cons t R =>
      have h2 : t.1 = m := h
      subst h2
      exact (Must_yes rb t R E w hr hm).mono fun e w' h => .inl ⟨t, R, rfl, rfl, h⟩
  · refine (Must_no rb T E m w hr hm (by rw [hto]; exact h)).mono ?_
    rintro e w' ⟨h1, h2, h3⟩
    exact .inr ⟨h, w.heap.size, 3, _, h1, h2, Nat.le_refl _, below_grown h3 _⟩
/-- a name, or none -/
theorem name_any (w : World) (rb E : Nat) (T : List Rd.Tok) (hr : Rdr w rb T E) (hT : Toks T) :
    Calls Tryz.prog 54 #[.pointer (some ⟨rb, 0, none⟩)] w fun e w' => (∃ u R, T = u :: R ∧ Tm.nameB u.1 = true ∧ e = .returned (.string (bstr u.1)) ∧ Rdr w' rb R E ∧ w.grownBy w' (some rb)) ∨ (Tm.nameB (Tm.textOf T) = false ∧ Bad w rb e w') := by
  by_cases h : Tm.nameB (Tm.textOf T) = true
  · cases T with
    | nil => exact absurd h (by decide)
    | cons u R => exact (name_yes rb u R E w hr h).mono fun e w' g => .inl ⟨u, R, rfl, h, g⟩
  · have h2 : Tm.nameB (Tm.textOf T) = false := by simpa using h
    exact (name_no rb T E w hr h2 hT.text).mono fun e w' g => .inr ⟨h2, g⟩
end Go.Proofs.YtlomecfhobehnaaGreatDoor
end
section
/- Templates in plain words: an item as the parser goes through it; what each step asks. -/
namespace Go.Proofs.YtlomecfhobehnaaGreatDoor
set_option linter.unusedVariables false
set_option linter.unusedSimpArgs false
namespace Tm
open Ex
variable {E d : Nat}
/-- a block with its braces -/
def BlkP (E d : Nat) (T : List Tok) (l : Its) (R : List Tok) : Prop := ∃ b T2, T = b :: T2 ∧ b.1 = [123] ∧ d ≤ 8 ∧ Blk E d 0 T2 l R
/-- one item -/
inductive ItmP (E d : Nat) : List Tok → Its → List Tok → Prop where
  | hd {T R : List Tok} {h : Hd} : HdP E T h R → ItmP E d T (.cons h .nil) R
  | when {t : Tok} {T U R : List Tok} {c : X} {body : Its} : t.1 = wWhen → ParT E T c U → BlkP E (d + 1) U body R → ItmP E d (t :: T) (.when t.2 c body .nil) R
theorem hd_name {t : Tok} {T R : List Tok} {a : Hd} (h : HdP E (t :: T) a R) : nameB (textOf T) = true := by
  cases h with
  | mk h1 h2 h3 h4 => exact h2
theorem hd_knd {t : Tok} {T R : List Tok} {a : Hd} (h : HdP E (t :: T) a R) : (kindOf t.1).isSome = true ∨ t.1 = wBytes ∨ nameB t.1 = true := by
  cases h with
  | mk h1 h2 h3 h4 =>
    cases h1 with
    | scalar h => exact .inl h
    | bytes h => exact .inr (.inl h)
    | struct h => exact .inr (.inr h)
theorem bytes_kind : kindOf wBytes = none ∧ nameB wBytes = false := by decide
theorem hd_bytes {t n : Tok} {T R : List Tok} {a : Hd} (h : HdP E (t :: n :: T) a R) (ht : t.1 = wBytes) : textOf T = [91] := by
  cases h with
  | mk h1 h2 h3 h4 =>
    cases h1 with
    | scalar h => rw [ht, bytes_kind.1] at h; cases h
    | struct h => rw [ht, bytes_kind.2] at h; cases h
    | bytes h =>
      cases h3 with
      | cnt hc hb =>
        cases hc with
        | no => exact absurd rfl (hb rfl)
        | yes h5 h6 h7 => exact h5
theorem hd_cnt {t n o : Tok} {T R : List Tok} {a : Hd} (h : HdP E (t :: n :: o :: T) a R) (ho : o.1 = [91]) : ∃ x c R', ParT E T x (c :: R') ∧ c.1 = [93] ∧ textOf R' = [59] := by
  cases h with
  | mk h1 h2 h3 h4 =>
    cases h3 with
    | cnt hc hb =>
      cases hc with
      | no h5 => exact absurd ho h5
      | yes h5 h6 h7 => exact ⟨_, _, _, h6, h7, h4⟩
    | rule h5 h6 => rw [ho] at h5; exact absurd h5 (by decide)
theorem hd_rule {t n o : Tok} {T R : List Tok} {a : Hd} (h : HdP E (t :: n :: o :: T) a R) (ho : o.1 = [61]) : ∃ r R', RuleP T r R' ∧ textOf R' = [59] := by
  cases h with
  | mk h1 h2 h3 h4 =>
    cases h3 with
    | cnt hc hb =>
      cases hc with
      | no h5 => rw [ho] at h4; exact absurd h4 (by decide)
      | yes h5 h6 h7 => rw [ho] at h5; exact absurd h5 (by decide)
    | rule h5 h6 => exact ⟨_, _, h6, h4⟩
theorem hd_semi {t n : Tok} {T R : List Tok} {a : Hd} (h : HdP E (t :: n :: T) a R) (h1 : textOf T ≠ [91]) (h2 : (kindOf t.1).isSome = true → textOf T ≠ [61]) : textOf T = [59] := by
  cases h with
  | mk h3 _ h5 h6 =>
    cases h5 with
    | cnt hc hb =>
      cases hc with
      | no _ => exact h6
      | yes h7 _ _ => exact absurd h7 h1
    | rule h7 h8 =>
      cases h3 with
      | scalar hk => exact absurd h7 (h2 hk)
theorem hd_nil {R : List Tok} {a : Hd} (h : HdP E [] a R) : False := by cases h
theorem itm_hd {T R : List Tok} {I : Its} (h : ItmP E d T I R) (ht : textOf T ≠ wWhen) : ∃ a, I = .cons a .nil ∧ HdP E T a R := by
  cases h with
  | hd h => exact ⟨_, rfl, h⟩
  | when h => exact absurd h ht
theorem itm_when {t : Tok} {T R : List Tok} {I : Its} (h : ItmP E d (t :: T) I R) (ht : t.1 = wWhen) : ∃ c U body, ParT E T c U ∧ BlkP E (d + 1) U body R := by
  cases h with
  | hd h => exact absurd ht h.no.2
  | when _ h2 h3 => exact ⟨_, _, _, h2, h3⟩
theorem BlkP.suf {T R : List Tok} {l : Its} (h : BlkP E d T l R) : R <:+ T ∧ R.length < T.length := by
  obtain ⟨b, T2, rfl, h1, h2, h3⟩ := h
  exact ⟨suf_cons h3.suf.1, by have := h3.suf.2; simp; omega⟩
theorem ItmP.suf {T R : List Tok} {I : Its} (h : ItmP E d T I R) : R <:+ T ∧ R.length < T.length := by
  cases h with
  | hd h => exact h.suf
  | when h1 h2 h3 => exact ⟨suf_cons (h3.suf.1.trans h2.suf.1), by have := h3.suf.2; have := h2.suf.2; simp; omega⟩
theorem BlkP.det {T R R' : List Tok} {l l' : Its} (h : BlkP E d T l R) (h' : BlkP E d T l' R') : l = l' ∧ R = R' := by
  obtain ⟨b, T2, rfl, h1, h2, h3⟩ := h
  obtain ⟨b', T2', e, h1', h2', h3'⟩ := h'
  cases e
  exact h3.det _ _ h3'
theorem ItmP.det {T R R' : List Tok} {I I' : Its} (h : ItmP E d T I R) (h' : ItmP E d T I' R') : I = I' ∧ R = R' := by
  cases h with
  | hd h =>
    obtain ⟨a, rfl, h2⟩ := itm_hd h' h.no.2
    obtain ⟨rfl, rfl⟩ := h.det h2
    exact ⟨rfl, rfl⟩
  | when h1 h2 h3 =>
    cases h' with
    | hd h => exact absurd h1 h.no.2
    | when _ h4 h5 =>
      obtain ⟨rfl, rfl⟩ := ParT.det h2 h4
      obtain ⟨rfl, rfl⟩ := h3.det h5
      exact ⟨rfl, rfl⟩
def Its.app : Its → Its → Its
  | .nil, m => m
  | .cons h l, m => .cons h (l.app m)
  | .when a c b l, m => .when a c b (l.app m)
def Its.len : Its → Nat
  | .nil => 0
  | .cons _ l => l.len + 1
  | .when _ _ _ l => l.len + 1
theorem app_len (l m : Its) : (l.app m).len = l.len + m.len := by
  induction l with
  | nil => simp [Its.app, Its.len]
  | cons h l ih => simp only [Its.app, Its.len, ih]; omega
  | when a c b l _ ih => simp only [Its.app, Its.len, ih]; omega
theorem app_nil (l : Its) : l.app .nil = l := by
  induction l with
  | nil => rfl
  | cons h l ih => rw [Its.app, ih]
  | when a c b l _ ih => rw [Its.app, ih]
theorem app_assoc (l m k : Its) : (l.app m).app k = l.app (m.app k) := by
  induction l with
  | nil => rfl
  | cons h l ih => simp only [Its.app, ih]
  | when a c b l _ ih => simp only [Its.app, ih]
theorem ItmP.one {T R : List Tok} {I : Its} (h : ItmP E d T I R) : I.len = 1 := by
  cases h <;> rfl
/-- an item, and the rest of the block -/
theorem blk_item {n : Nat} {T R R2 : List Tok} {I l : Its} (hn : n < 16) (h : ItmP E d T I R) (h2 : Blk E d (n + 1) R l R2) : Blk E d n T (I.app l) R2 := by
  cases h with
  | hd h => exact .item hn h h2
  | when h1 h3 h4 =>
    obtain ⟨b, T2, rfl, h5, h6, h7⟩ := h4
    exact .when hn h1 h3 h5 h6 h7 h2
/-- what a block's rest begins with -/
theorem blk_split {n : Nat} {T R2 : List Tok} {L : Its} (h : Blk E d n T L R2) : (textOf T = [125] ∧ L = .nil) ∨ (textOf T ≠ [125] ∧ n < 16 ∧ ∃ I R l, ItmP E d T I R ∧ Blk E d (n + 1) R l R2 ∧ L = I.app l) := by
  cases h with
  | fin h => exact .inl ⟨h, rfl⟩
  | item h1 h2 h3 => exact .inr ⟨h2.no.1, h1, _, _, _, .hd h2, h3, rfl⟩
  | when h1 h2 h3 h4 h5 h6 h7 => exact .inr ⟨by intro e; exact absurd (h2.symm.trans e) (by decide), h1, _, _, _, .when h2 h3 ⟨_, _, rfl, h4, h5, h6⟩, h7, rfl⟩
end Tm
end Go.Proofs.YtlomecfhobehnaaGreatDoor
end
section
/- Items in memory. -/
namespace Go.Proofs.YtlomecfhobehnaaGreatDoor
open Go.RowKit
set_option linter.unusedVariables false
set_option linter.unusedSimpArgs false
open Rd
namespace Tm
def kindN : Knd → Nat
  | .scalar _ => 1
  | .bytes => 2
  | .struct _ => 3
def kindT : Knd → Wd
  | .struct t => t
  | _ => []
def kindW (k : Knd) : Nat × Nat × Bool := match k with
  | .scalar w => kindV w
  | _ => (0, 0, false)
def manyB (h : Hd) : Bool := match h.k, h.cnt with
  | .bytes, _ => false
  | _, some _ => true
  | _, none => false
/-- an expression that may not be there -/
def CntV (w : World) (rb : Nat) : Option Ex.X → Value → Prop
  | none, v => v = .pointer none
  | some x, v => ∃ b, v = .pointer (some ⟨b, 0, none⟩) ∧ IsX w rb b x
def hdCells (h : Hd) (cv : Value) : List Value :=
  [.int .i64 (kindN h.k : Nat), .int .i64 (h.at_ : Nat), .string (bstr h.name), .string (bstr (kindT h.k)), .int .i64 ((kindW h.k).1 : Nat), .int .i64 ((kindW h.k).2.1 : Nat), .bool (kindW h.k).2.2, .bool (manyB h), cv,
    .int .i64 ((ruleV h.rule).1 : Nat), .string (bstr (ruleV h.rule).2.1), .string (bstr (ruleV h.rule).2.2), .slice none 0 0]
def whenCells (a : Nat) (cv sv : Value) : List Value :=
  [.int .i64 4, .int .i64 (a : Nat), .string (bstr []), .string (bstr []), .int .i64 0, .int .i64 0, .bool false, .bool false, cv, .int .i64 0, .string (bstr []), .string (bstr []), sv]
/-- items as a row of cells; bodies lie in rows of their own, which are 'ok' -/
def Enc (w : World) (rb : Nat) (ok : Nat → Prop) : Its → List Value → Prop
  | .nil, vs => vs = []
  | .cons h l, vs => ∃ cv us, CntV w rb h.cnt cv ∧ vs = hdCells h cv ++ us ∧ Enc w rb ok l us
  | .when a c b l, vs => ∃ cb ga cap bs us, IsX w rb cb c ∧ Owns w (rb + 1) 70 13 ga b.len cap bs ∧ (∀ x, ga = some x → ok x.block) ∧ Enc w rb ok b bs ∧ vs = whenCells a (.pointer (some ⟨cb, 0, none⟩)) (.slice ga b.len cap) ++ us ∧ Enc w rb ok l us
theorem Enc.mono {w : World} {rb : Nat} {ok ok' : Nat → Prop} (h : ∀ b, ok b → ok' b) : ∀ (l : Its) (vs : List Value), Enc w rb ok l vs → Enc w rb ok' l vs
  | .nil, vs, e => e
  | .cons a l, vs, e => by
    obtain ⟨cv, us, h1, h2, h3⟩ := e
    exact ⟨cv, us, h1, h2, Enc.mono h l us h3⟩
  | .when a c b l, vs, e => by
    obtain ⟨cb, ga, cap, bs, us, h1, h2, h3, h4, h5, h6⟩ := e
    exact ⟨cb, ga, cap, bs, us, h1, h2, fun x hx => h _ (h3 x hx), Enc.mono h b bs h4, h5, Enc.mono h l us h6⟩
theorem Enc.grown {w w' : World} {rb : Nat} {ok : Nat → Prop} (hg : w.grownBy w' (some rb)) : ∀ (l : Its) (vs : List Value), Enc w rb ok l vs → Enc w' rb ok l vs
  | .nil, vs, e => e
  | .cons a l, vs, e => by
    obtain ⟨cv, us, h1, h2, h3⟩ := e
    refine ⟨cv, us, ?_, h2, Enc.grown hg l us h3⟩
    cases hc : a.cnt with
    | none => rw [hc] at h1; exact h1
    | some x =>
      rw [hc] at h1
      obtain ⟨b, h4, h5⟩ := h1
      exact ⟨b, h4, IsX.grown hg x b h5⟩
  | .when a c b l, vs, e => by
    obtain ⟨cb, ga, cap, bs, us, h1, h2, h3, h4, h5, h6⟩ := e
    refine ⟨cb, ga, cap, bs, us, IsX.grown hg c cb h1, h2.grown hg fun x hx e => ?_, h3, Enc.grown hg b bs h4, h5, Enc.grown hg l us h6⟩
    subst hx
    have := h2.lt.1
    injection e with e
    omega
theorem hdCells_len (h : Hd) (cv : Value) : (hdCells h cv).length = 13 := rfl
theorem whenCells_len (a : Nat) (cv sv : Value) : (whenCells a cv sv).length = 13 := rfl
theorem Enc.len {w : World} {rb : Nat} {ok : Nat → Prop} : ∀ (l : Its) (vs : List Value), Enc w rb ok l vs → vs.length = l.len * 13
  | .nil, vs, e => by rw [show vs = [] from e]; rfl
  | .cons a l, vs, e => by
    obtain ⟨cv, us, h1, rfl, h3⟩ := e
    rw [List.length_append, hdCells_len, Enc.len l us h3, Its.len]; omega
  | .when a c b l, vs, e => by
    obtain ⟨cb, ga, cap, bs, us, h1, h2, h3, h4, rfl, h6⟩ := e
    rw [List.length_append, whenCells_len, Enc.len l us h6, Its.len]; omega
end Tm
end Go.Proofs.YtlomecfhobehnaaGreatDoor
end
