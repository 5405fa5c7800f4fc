/- Contract of tmpl.rule: check, and what is no rule. -/
import Derived.Test.YtlpkebngehmimaaGreatDoorMgTypesMore21
section
/- Contracts of tmpl.name, tmpl.rule. -/
namespace Go.Proofs.YtlpkebngehmimaaGreatDoor
open Go.RowKit
set_option linter.unusedVariables false
set_option linter.unusedSimpArgs false
open Rd
namespace Rd
theorem Rdr.drewN {w : World} {rb : Nat} {R : List Tok} {E : Nat} (h : Rdr w rb R E) (k : Nat) : Rdr (w.drewN k) rb R E := h.below ⟨rfl, rfl, rfl, Nat.le_refl _, fun _ _ => rfl⟩
theorem dn_grown (w : World) (k : Nat) (r : Option Nat) : w.grownBy (w.drewN k) r := ⟨rfl, rfl, rfl, Nat.le_refl _, fun _ _ _ => rfl⟩
/-- it was thrown -/
def Bad (w : World) (rb : Nat) (e : Ending) (w' : World) : Prop := ∃ g en p : Nat, e = thrown g ∧ RowAt w' g 0 111 [.int .i64 (en : Nat), .int .i64 (p : Nat)] ∧ w.heap.size ≤ g ∧ w.grownBy w' (some rb)
end Rd
set_option maxRecDepth 100000 in
theorem name_yes (rb : Nat) (t : Rd.Tok) (R : List Rd.Tok) (E : Nat) (w : World) (h : Rdr w rb (t :: R) E) (hn : Tm.nameB t.1 = true) :
    Calls Tryz.prog 26 #[.pointer (some ⟨rb, 0, none⟩)] w fun e w' => e = .returned (.string (bstr t.1)) ∧ Rdr w' rb R E ∧ w.grownBy w' (some rb) := by
  have hne : t.1 ≠ [] := by intro e; rw [e] at hn; exact absurd hn (by decide)
  have hkp := Tm.name_kept hn
  have hle : isName t.1 = true := by
    unfold Tm.nameB at hn
    simp only [Bool.and_eq_true] at hn
    have := hn.1.1
    cases ht : t.1 with
    | nil => rw [ht] at this; cases this
    | cons c r => rw [ht] at this; exact this
  have hlen : t.1.length ≤ 12 := by
    unfold Tm.nameB at hn
    simp only [Bool.and_eq_true, decide_eq_true_eq] at hn
    exact hn.2
  have HA := Lib.hid (At_any rb (t :: R) E w h)
  have HT := Lib.hid (Text_any rb (t :: R) E w h)
  have HP := Lib.hid (fun k => Pass_any rb t R E (w.drewN k) (h.drewN k) hne)
  have hN := Name_all t.1 w
  rw [hle] at hN
  have HN := Lib.hid hN
  have hK := kept_any t.1 w
  rw [hkp] at hK
  have HK := Lib.hid hK
  have hto : textOf (t :: R) = t.1 := rfl
  rw [hto] at HT
  generalize Ex.atOf E (t :: R) = at_ at *
  generalize t.1 = s at *
  have d12 : decide ((12 : Int) < (s.length : Int)) = false := decide_eq_false (by omega)
  have d12n : decide (12 < s.length) = false := decide_eq_false (by omega)
  clear h hn hne hkp hle hN hK hto
  go_enter Tryz.func26, Tryz.ntmps26
  go_wp2_with fail
  refine HA.out.mono ?_
  rintro e w1 ⟨rfl, rfl⟩
  go_wp2_with fail
  refine HT.out.mono ?_
  rintro e w2 ⟨rfl, rfl⟩
  go_wp2_with fail
  refine HN.out.mono ?_
  rintro e w3 ⟨rfl, rfl⟩
  go_wp2_with fail
  refine HK.out.mono ?_
  rintro e w4 ⟨rfl, k, rfl⟩
  go_wp2_with fail
  refine (HP.out k).mono ?_
  rintro e w5 ⟨rfl, h1, h2⟩
  go_wp2_with fail
  go_ret
  exact ⟨rfl, h1, grownBy_trans (dn_grown _ k _) h2⟩
set_option maxRecDepth 100000 in
theorem name_no (rb : Nat) (T : List Rd.Tok) (E : Nat) (w : World) (h : Rdr w rb T E) (hn : Tm.nameB (Tm.textOf T) = false) (hsz : (Tm.textOf T).length ≤ 100000) :
    Calls Tryz.prog 26 #[.pointer (some ⟨rb, 0, none⟩)] w (Bad w rb) := by
  have hto : textOf T = Tm.textOf T := by cases T <;> rfl
  have HA := Lib.hid (At_any rb T E w h)
  have HT := Lib.hid (Text_any rb T E w h)
  rw [hto] at HT
  have HN := Lib.hid (Name_all (Tm.textOf T) w)
  have HK := Lib.hid (kept_any (Tm.textOf T) w)
  have hnb : isName (Tm.textOf T) = false ∨ (isName (Tm.textOf T) = true ∧ Tm.keptB (Tm.textOf T) = true) ∨ (isName (Tm.textOf T) = true ∧ Tm.keptB (Tm.textOf T) = false ∧ 12 < (Tm.textOf T).length) := by
    have e : Tm.lettered (Tm.textOf T) = isName (Tm.textOf T) := by cases Tm.textOf T <;> rfl
    unfold Tm.nameB at hn
    rw [e] at hn
    cases h1 : isName (Tm.textOf T) with
    | false => exact .inl rfl
    | true =>
      cases h2 : Tm.keptB (Tm.textOf T) with
      | true => exact .inr (.inl ⟨rfl, rfl⟩)
      | false =>
        rw [h1, h2] at hn
        simp only [Bool.true_and, Bool.not_false, decide_eq_false_iff_not, Nat.not_le] at hn
        exact .inr (.inr ⟨rfl, rfl, hn⟩)
  generalize Tm.textOf T = s at *
  generalize Ex.atOf E T = at_ at *
  have hF := fun en k => Fail_any rb en at_ (w.drewN k)
  unfold thrown at hF
  have HF := Lib.hid hF
  unfold Bad thrown
  clear h hn hto hF
  rcases hnb with h1 | ⟨h1, h2⟩ | ⟨h1, h2, h3⟩
  · rw [h1] at HN
    clear h1
    go_enter Tryz.func26, Tryz.ntmps26
    go_wp2_with fail
    refine HA.out.mono ?_
    rintro e w1 ⟨rfl, rfl⟩
    go_wp2_with fail
    refine HT.out.mono ?_
    rintro e w2 ⟨rfl, rfl⟩
    go_wp2_with fail
    refine HN.out.mono ?_
    rintro e w3 ⟨rfl, rfl⟩
    go_wp2_with fail
    refine (HF.out 3 0).mono ?_
    rintro e w5 ⟨rfl, h1, h2⟩
    go_wp2_with fail
    exact ⟨rfl, _, 3, at_, rfl, h1, Nat.le_refl _, below_grown h2 _⟩
  · rw [h1] at HN
    rw [h2] at HK
    clear h1 h2
    go_enter Tryz.func26, Tryz.ntmps26
    go_wp2_with fail
    refine HA.out.mono ?_
    rintro e w1 ⟨rfl, rfl⟩
    go_wp2_with fail
    refine HT.out.mono ?_
    rintro e w2 ⟨rfl, rfl⟩
    go_wp2_with fail
    refine HN.out.mono ?_
    rintro e w3 ⟨rfl, rfl⟩
    go_wp2_with fail
    refine HK.out.mono ?_
    rintro e w4 ⟨rfl, k, rfl⟩
    go_wp2_with fail
    refine (HF.out 3 k).mono ?_
    rintro e w5 ⟨rfl, h1, h2⟩
    go_wp2_with fail
    exact ⟨rfl, _, 3, at_, rfl, h1, Nat.le_refl _, grownBy_trans (dn_grown _ k _) (below_grown h2 _)⟩
  · rw [h1] at HN
    rw [h2] at HK
    have d12 : decide ((12 : Int) < (s.length : Int)) = true := decide_eq_true (by omega)
    have d12n : decide (12 < s.length) = true := decide_eq_true h3
    clear h1 h2
    go_enter Tryz.func26, Tryz.ntmps26
    go_wp2_with fail
    refine HA.out.mono ?_
    rintro e w1 ⟨rfl, rfl⟩
    go_wp2_with fail
    refine HT.out.mono ?_
    rintro e w2 ⟨rfl, rfl⟩
    go_wp2_with fail
    refine HN.out.mono ?_
    rintro e w3 ⟨rfl, rfl⟩
    go_wp2_with fail
    refine HK.out.mono ?_
    rintro e w4 ⟨rfl, k, rfl⟩
    go_wp2_with fail
    refine (HF.out 4 k).mono ?_
    rintro e w5 ⟨rfl, h1, h2⟩
    go_wp2_with fail
    exact ⟨rfl, _, 4, at_, rfl, h1, Nat.le_refl _, grownBy_trans (dn_grown _ k _) (below_grown h2 _)⟩
end Go.Proofs.YtlpkebngehmimaaGreatDoor
end
section
/- Contract of tmpl.rule. -/
namespace Go.Proofs.YtlpkebngehmimaaGreatDoor
open Go.RowKit
set_option linter.unusedVariables false
set_option linter.unusedSimpArgs false
open Rd
namespace Rd
theorem Rdr.setX {w : World} {rb xb k : Nat} {R : List Tok} {E : Nat} (h : Rdr w rb R E) (hx : rb < xb) (v : Value) : Rdr (w.setCell ⟨xb, k, none⟩ v) rb R E := by
  obtain ⟨a, c, h1, h2, h3⟩ := h
  have hh : ∀ b, b ≤ rb → (w.setCell ⟨xb, k, none⟩ v).heap[b]? = w.heap[b]? := fun b hb => Below.heap_setCell w ⟨xb, k, none⟩ v b (by show b ≠ xb; omega)
  refine ⟨a, c, h1.of_heap (hh rb (Nat.le_refl _)), h2, ?_⟩
  rcases h3 with h | ⟨g, off, e1, e2, e3⟩
  · exact .inl h
  · refine .inr ⟨g, off, e1, e2, fun j hj => ?_⟩
    have hb := hh g (Nat.le_of_lt e2)
    exact ⟨(World.cell?_of_block (a := ⟨g, off + j * 2, none⟩) hb).trans (e3 j hj).1, (World.cell?_of_block (a := ⟨g, off + j * 2 + 1, none⟩) hb).trans (e3 j hj).2⟩
/-- what has grown since w0, but for the reader and what is younger -/
theorem up_setX {w0 w : World} {rb xb k : Nat} (h : w0.grownBy w (some rb)) (hx : w0.heap.size ≤ xb) (v : Value) : w0.grownBy (w.setCell ⟨xb, k, none⟩ v) (some rb) :=
  ⟨h.os, h.tape, h.output, by rw [World.size_setCell]; exact h.size, fun i hi hne => (Below.heap_setCell w ⟨xb, k, none⟩ v i (by show i ≠ xb; omega)).trans (h.block i hi hne)⟩
theorem Bad.up {w0 w : World} {rb : Nat} {e : Ending} {w' : World} (hg : w0.grownBy w (some rb)) (h : Bad w rb e w') : Bad w0 rb e w' := by
  obtain ⟨g, en, p, h1, h2, h3, h4⟩ := h
  exact ⟨g, en, p, h1, h2, Nat.le_trans hg.size h3, grownBy_trans hg h4⟩
end Rd
set_option maxRecDepth 100000 in
theorem Pass_none (rb : Nat) (E : Nat) (w : World) (h : Rdr w rb [] E) :
    Calls Tryz.prog 48 #[.pointer (some ⟨rb, 0, none⟩)] w (Bad w rb) := by
  have HT := Lib.hid (Text_any rb [] E w h)
  have HA := Lib.hid (At_any rb [] E w h)
  have hto : textOf ([] : List Tok) = [] := rfl
  rw [hto] at HT
  generalize Ex.atOf E [] = at_ at *
  have hF := Fail_any rb 3 at_ w
  unfold thrown at hF
  have HF := Lib.hid hF
  unfold Bad thrown
  clear h hto hF
  go_enter Tryz.func48, Tryz.ntmps48
  go_wp2_with fail
  refine HT.out.mono ?_
  rintro e w1 ⟨rfl, rfl⟩
  go_wp2_with fail
  refine HA.out.mono ?_
  rintro e w2 ⟨rfl, rfl⟩
  go_wp2_with fail
  refine HF.out.mono ?_
  rintro e w3 ⟨rfl, h1, h2⟩
  go_wp2_with fail
  exact ⟨rfl, _, 3, at_, rfl, h1, Nat.le_refl _, below_grown h2 _⟩
def ruleV : Tm.Rl → Nat × Tm.Wd × Tm.Wd
  | .none => (0, [], [])
  | .size f => (1, f, [])
  | .count f => (2, f, [])
  | .check f l => (3, f, l)
/-- an item's cells, all but those of its rule -/
structure C10 where
  c0 : Value
  c1 : Value
  c2 : Value
  c3 : Value
  c4 : Value
  c5 : Value
  c6 : Value
  c7 : Value
  c8 : Value
  c12 : Value
def C10.row (c : C10) (r : Nat) (f l : Tm.Wd) : List Value := [c.c0, c.c1, c.c2, c.c3, c.c4, c.c5, c.c6, c.c7, c.c8, .int .i64 (r : Nat), .string (bstr f), .string (bstr l), c.c12]
structure RuSt (w0 w : World) (rb xb E : Nat) (R : List Rd.Tok) (c : C10) (r : Nat) (f l : Tm.Wd) : Prop where
  gr : w0.grownBy w (some rb)
  lo : w0.heap.size ≤ xb
  lt : rb < xb
  rd : Rdr w rb R E
  row : RowAt w xb 0 88 (c.row r f l)
section
variable {w0 w w' : World} {rb xb E r : Nat} {R R' : List Rd.Tok} {c : C10} {f l : Tm.Wd}
theorem RuSt.move (h : RuSt w0 w rb xb E R c r f l) (hr : Rdr w' rb R' E) (hg : w.grownBy w' (some rb)) : RuSt w0 w' rb xb E R' c r f l :=
  ⟨grownBy_trans h.gr hg, h.lo, h.lt, hr, h.row.of_heap (hg.block xb h.row.lt (fun e => by injection e with e; have := h.lt; omega))⟩
theorem RuSt.set9 (h : RuSt w0 w rb xb E R c r f l) (v : Nat) : RuSt w0 (w.setCell ⟨xb, 9, none⟩ (.int .i64 (v : Nat))) rb xb E R c v f l :=
  ⟨up_setX h.gr h.lo _, h.lo, h.lt, h.rd.setX h.lt _, h.row.set0 9 (by simp [C10.row]) _⟩
theorem RuSt.set10 (h : RuSt w0 w rb xb E R c r f l) (v : Tm.Wd) : RuSt w0 (w.setCell ⟨xb, 10, none⟩ (.string (bstr v))) rb xb E R c r v l :=
  ⟨up_setX h.gr h.lo _, h.lo, h.lt, h.rd.setX h.lt _, h.row.set0 10 (by simp [C10.row]) _⟩
theorem RuSt.set11 (h : RuSt w0 w rb xb E R c r f l) (v : Tm.Wd) : RuSt w0 (w.setCell ⟨xb, 11, none⟩ (.string (bstr v))) rb xb E R c r f v :=
  ⟨up_setX h.gr h.lo _, h.lo, h.lt, h.rd.setX h.lt _, h.row.set0 11 (by simp [C10.row]) _⟩
theorem RuSt.cells (h : RuSt w0 w rb xb E R c r f l) : w.cell? ⟨xb, 9, none⟩ = some (.int .i64 (r : Nat)) ∧ w.cell? ⟨xb, 10, none⟩ = some (.string (bstr f)) ∧ w.cell? ⟨xb, 11, none⟩ = some (.string (bstr l)) ∧ w.frozen? ⟨xb, 9, none⟩ = false ∧ w.frozen? ⟨xb, 10, none⟩ = false ∧ w.frozen? ⟨xb, 11, none⟩ = false :=
  ⟨h.row.cell0 9 (by simp [C10.row]), h.row.cell0 10 (by simp [C10.row]), h.row.cell0 11 (by simp [C10.row]), h.row.frozen0 9 (by simp [C10.row]), h.row.frozen0 10 (by simp [C10.row]), h.row.frozen0 11 (by simp [C10.row])⟩
end
end Go.Proofs.YtlpkebngehmimaaGreatDoor
end
section
/- Contract of tmpl.rule: size, count. -/
namespace Go.Proofs.YtlpkebngehmimaaGreatDoor
open Go.RowKit
set_option linter.unusedVariables false
set_option linter.unusedSimpArgs false
open Rd
set_option maxRecDepth 100000 in
set_option maxHeartbeats 1000000 in
theorem rule_size (w0 w : World) (rb xb E : Nat) (t : Rd.Tok) (R1 : List Rd.Tok) (c : C10) (st : RuSt w0 w rb xb E (t :: R1) c 0 [] []) (ht : t.1 = Tm.wSize) (hsz : (Tm.textOf R1).length ≤ 100000) :
    Calls Tryz.prog 76 #[.pointer (some ⟨rb, 0, none⟩), .pointer (some ⟨xb, 0, none⟩)] w fun e w' => (∃ u R2, R1 = u :: R2 ∧ Tm.nameB u.1 = true ∧ e = .returned (.tuple #[]) ∧ RuSt w0 w' rb xb E R2 c 1 u.1 []) ∨ (Tm.nameB (Tm.textOf R1) = false ∧ Bad w0 rb e w') := by
  have HA := Lib.hid (At_any rb (t :: R1) E w st.rd)
  have hP := Pass_any rb t R1 E w st.rd (by rw [ht]; decide)
  rw [ht] at hP
  have HP := Lib.hid hP
  have q1 : (Tm.wSize == [115, 105, 122, 101]) = true := by decide
  have q2 : (Tm.wSize == [99, 111, 117, 110, 116]) = false := by decide
  have HST := Lib.hid st
  have HSZ := Lib.hid hsz
  generalize Ex.atOf E (t :: R1) = at_ at *
  clear st ht hP hsz
  go_enter Tryz.func76, Tryz.ntmps76
  go_wp2_with fail
  refine HA.out.mono ?_
  rintro e w1 ⟨rfl, rfl⟩
  go_wp2_with fail
  refine HP.out.mono ?_
  rintro e w2 ⟨rfl, hr2, hg2⟩
  have HS2 := Lib.hid (HST.out.move hr2 hg2)
  obtain ⟨k9, k10, k11, f9, f10, f11⟩ := HS2.out.cells
  clear hr2 hg2 HP HA HST k10 k11 f10 f11
  go_wp2_with fail
  have HS3 := Lib.hid (HS2.out.set9 1)
  by_cases hn : Tm.nameB (Tm.textOf R1) = true
  · obtain ⟨u, R2, rfl⟩ : ∃ u R2, R1 = u :: R2 := by
      cases R1 with
      | nil => exact absurd hn (by decide)
      | cons u R2 => exact ⟨u, R2, rfl⟩
    refine (name_yes rb u R2 E _ HS3.out.rd hn).mono ?_
    rintro e w4 ⟨rfl, hr4, hg4⟩
    have HS4 := Lib.hid (HS3.out.move hr4 hg4)
    obtain ⟨k9, k10, k11, f9, f10, f11⟩ := HS4.out.cells
    have HS5 := Lib.hid (HS4.out.set10 u.1)
    obtain ⟨m9, m10, m11, _⟩ := HS5.out.cells
    have HN := Lib.hid hn
    clear hr4 hg4 HS2 HS3 hn k11 f11
    go_wp2_with fail
    go_end0
    exact .inl ⟨u, R2, rfl, HN.out, rfl, HS5.out⟩
  · have hn2 : Tm.nameB (Tm.textOf R1) = false := by simpa using hn
    have hx := name_no rb R1 E _ HS3.out.rd hn2 HSZ.out
    have hb : ∀ e w', Bad (w2.setCell ⟨xb, 9, none⟩ (.int .i64 1)) rb e w' → Bad w0 rb e w' := fun e w' h => Bad.up HS3.out.gr h
    have HX := Lib.hid (hx.mono hb)
    have HN := Lib.hid hn2
    unfold Bad thrown at HX
    clear hn hn2 hx hb
    refine HX.out.mono ?_
    rintro e w4 ⟨g, en, p, rfl, h1, h2, h3⟩
    go_wp2_with fail
    exact ⟨rfl, .inr ⟨HN.out, g, en, p, rfl, h1, h2, h3⟩⟩
set_option maxRecDepth 100000 in
set_option maxHeartbeats 1000000 in
theorem rule_count (w0 w : World) (rb xb E : Nat) (t : Rd.Tok) (R1 : List Rd.Tok) (c : C10) (st : RuSt w0 w rb xb E (t :: R1) c 0 [] []) (ht : t.1 = Tm.wCount) (hsz : (Tm.textOf R1).length ≤ 100000) :
    Calls Tryz.prog 76 #[.pointer (some ⟨rb, 0, none⟩), .pointer (some ⟨xb, 0, none⟩)] w fun e w' => (∃ u R2, R1 = u :: R2 ∧ Tm.nameB u.1 = true ∧ e = .returned (.tuple #[]) ∧ RuSt w0 w' rb xb E R2 c 2 u.1 []) ∨ (Tm.nameB (Tm.textOf R1) = false ∧ Bad w0 rb e w') := by
  have HA := Lib.hid (At_any rb (t :: R1) E w st.rd)
  have hP := Pass_any rb t R1 E w st.rd (by rw [ht]; decide)
  rw [ht] at hP
  have HP := Lib.hid hP
  have q1 : (Tm.wCount == [115, 105, 122, 101]) = false := by decide
  have q2 : (Tm.wCount == [99, 111, 117, 110, 116]) = true := by decide
  have HST := Lib.hid st
  have HSZ := Lib.hid hsz
  generalize Ex.atOf E (t :: R1) = at_ at *
  clear st ht hP hsz
  go_enter Tryz.func76, Tryz.ntmps76
  go_wp2_with fail
  refine HA.out.mono ?_
  rintro e w1 ⟨rfl, rfl⟩
  go_wp2_with fail
  refine HP.out.mono ?_
  rintro e w2 ⟨rfl, hr2, hg2⟩
  have HS2 := Lib.hid (HST.out.move hr2 hg2)
  obtain ⟨k9, k10, k11, f9, f10, f11⟩ := HS2.out.cells
  clear hr2 hg2 HP HA HST k10 k11 f10 f11
  go_wp2_with fail
  have HS3 := Lib.hid (HS2.out.set9 2)
  by_cases hn : Tm.nameB (Tm.textOf R1) = true
  · obtain ⟨u, R2, rfl⟩ : ∃ u R2, R1 = u :: R2 := by
      cases R1 with
      | nil => exact absurd hn (by decide)
      | cons u R2 => exact ⟨u, R2, rfl⟩
    refine (name_yes rb u R2 E _ HS3.out.rd hn).mono ?_
    rintro e w4 ⟨rfl, hr4, hg4⟩
    have HS4 := Lib.hid (HS3.out.move hr4 hg4)
    obtain ⟨k9, k10, k11, f9, f10, f11⟩ := HS4.out.cells
    have HS5 := Lib.hid (HS4.out.set10 u.1)
    obtain ⟨m9, m10, m11, _⟩ := HS5.out.cells
    have HN := Lib.hid hn
    clear hr4 hg4 HS2 HS3 hn k11 f11
    go_wp2_with fail
    go_end0
    exact .inl ⟨u, R2, rfl, HN.out, rfl, HS5.out⟩
  · have hn2 : Tm.nameB (Tm.textOf R1) = false := by simpa using hn
    have hx := name_no rb R1 E _ HS3.out.rd hn2 HSZ.out
    have hb : ∀ e w', Bad (w2.setCell ⟨xb, 9, none⟩ (.int .i64 2)) rb e w' → Bad w0 rb e w' := fun e w' h => Bad.up HS3.out.gr h
    have HX := Lib.hid (hx.mono hb)
    have HN := Lib.hid hn2
    unfold Bad thrown at HX
    clear hn hn2 hx hb
    refine HX.out.mono ?_
    rintro e w4 ⟨g, en, p, rfl, h1, h2, h3⟩
    go_wp2_with fail
    exact ⟨rfl, .inr ⟨HN.out, g, en, p, rfl, h1, h2, h3⟩⟩
end Go.Proofs.YtlpkebngehmimaaGreatDoor
end
section
/- Contract of tmpl.rule: check, and what is no rule. -/
namespace Go.Proofs.YtlpkebngehmimaaGreatDoor
open Go.RowKit
set_option linter.unusedVariables false
set_option linter.unusedSimpArgs false
open Rd
set_option maxRecDepth 100000 in
set_option maxHeartbeats 1000000 in
theorem rule_check (w0 w : World) (rb xb E : Nat) (t : Rd.Tok) (R1 : List Rd.Tok) (c : C10) (st : RuSt w0 w rb xb E (t :: R1) c 0 [] []) (ht : t.1 = Tm.wCheck) (hsz : ∀ u ∈ R1, u.1.length ≤ 100000) :
    Calls Tryz.prog 76 #[.pointer (some ⟨rb, 0, none⟩), .pointer (some ⟨xb, 0, none⟩)] w fun e w' => (∃ l R3, Tm.RuleP (t :: R1) (.check (Tm.textOf R1) l) R3 ∧ e = .returned (.tuple #[]) ∧ RuSt w0 w' rb xb E R3 c 3 (Tm.textOf R1) l) ∨ ((∀ r R, ¬ Tm.RuleP (t :: R1) r R) ∧ Bad w0 rb e w') := by
  have HTW := Lib.hid ht
  have HA := Lib.hid (At_any rb (t :: R1) E w st.rd)
  have hP := Pass_any rb t R1 E w st.rd (by rw [ht]; decide)
  rw [ht] at hP
  have HP := Lib.hid hP
  have q1 : (Tm.wCheck == [115, 105, 122, 101]) = false := by decide
  have q2 : (Tm.wCheck == [99, 111, 117, 110, 116]) = false := by decide
  have q3 : (Tm.wCheck == [99, 104, 101, 99, 107]) = true := by decide
  have HST := Lib.hid st
  have HSZ := Lib.hid hsz
  have hnot : ∀ (r : Tm.Rl) (R : List Rd.Tok), Tm.RuleP (t :: R1) r R → ∃ u R2, R1 = u :: R2 ∧ Tm.nameB u.1 = true ∧ ((Tm.textOf R2 = [59]) ∨ Tm.nameB (Tm.textOf R2) = true) := by
    intro r R h
    cases h with
    | size h1 => rw [ht] at h1; exact absurd h1 (by decide)
    | count h1 => rw [ht] at h1; exact absurd h1 (by decide)
    | check1 _ h2 h3 => exact ⟨_, _, rfl, h2, .inl h3⟩
    | check2 _ h2 _ h4 => exact ⟨_, _, rfl, h2, .inr h4⟩
  have HNOT := Lib.hid hnot
  generalize Ex.atOf E (t :: R1) = at_ at *
  clear st ht hP hsz hnot
  go_enter Tryz.func76, Tryz.ntmps76
  go_wp2_with fail
  refine HA.out.mono ?_
  rintro e w1 ⟨rfl, rfl⟩
  go_wp2_with fail
  refine HP.out.mono ?_
  rintro e w2 ⟨rfl, hr2, hg2⟩
  have HS2 := Lib.hid (HST.out.move hr2 hg2)
  obtain ⟨k9, k10, k11, f9, f10, f11⟩ := HS2.out.cells
  clear hr2 hg2 HP HA HST k10 k11 f10 f11
  go_wp2_with fail
  have HS3 := Lib.hid (HS2.out.set9 3)
  by_cases hn : Tm.nameB (Tm.textOf R1) = true
  · obtain ⟨u, R2, rfl⟩ : ∃ u R2, R1 = u :: R2 := by
      cases R1 with
      | nil => exact absurd hn (by decide)
      | cons u R2 => exact ⟨u, R2, rfl⟩
    refine (name_yes rb u R2 E _ HS3.out.rd hn).mono ?_
    rintro e w4 ⟨rfl, hr4, hg4⟩
    have HS4 := Lib.hid (HS3.out.move hr4 hg4)
    obtain ⟨k9, k10, k11, f9, f10, f11⟩ := HS4.out.cells
    have HS5 := Lib.hid (HS4.out.set10 u.1)
    obtain ⟨m9, m10, m11, _, _, g11⟩ := HS5.out.cells
    have HS6 := Lib.hid (HS5.out.set11 u.1)
    have HT6 := Lib.hid (Text_any rb R2 E _ HS6.out.rd)
    rw [show textOf R2 = Tm.textOf R2 by cases R2 <;> rfl] at HT6
    have HN := Lib.hid hn
    clear hr4 hg4 HS2 HS3 HS4 HS5 hn f11
    go_wp2_with fail
    refine HT6.out.mono ?_
    rintro e w6 ⟨rfl, rfl⟩
    by_cases hsc : Tm.textOf R2 = [59]
    · have n1 : (Tm.textOf R2 == [59]) = true := by rw [beq_iff_eq]; exact hsc
      have n2 : (Tm.textOf R2 != [59]) = false := by rw [bne, n1]; rfl
      have HSC := Lib.hid hsc
      clear hsc
      go_wp2_with fail
      go_end0
      exact .inl ⟨u.1, R2, .check1 HTW.out HN.out HSC.out, rfl, HS6.out⟩
    · have n1 : (Tm.textOf R2 == [59]) = false := by rw [beq_eq_false_iff_ne]; exact hsc
      have n2 : (Tm.textOf R2 != [59]) = true := by rw [bne, n1]; rfl
      have HSC := Lib.hid hsc
      clear hsc
      go_wp2_with fail
      by_cases hn2 : Tm.nameB (Tm.textOf R2) = true
      · obtain ⟨v, R3, rfl⟩ : ∃ v R3, R2 = v :: R3 := by
          cases R2 with
          | nil => exact absurd hn2 (by decide)
          | cons v R3 => exact ⟨v, R3, rfl⟩
        refine (name_yes rb v R3 E _ HS6.out.rd hn2).mono ?_
        rintro e w7 ⟨rfl, hr7, hg7⟩
        have HS7 := Lib.hid (HS6.out.move hr7 hg7)
        obtain ⟨p9, p10, p11, _, _, e11⟩ := HS7.out.cells
        have HS8 := Lib.hid (HS7.out.set11 v.1)
        have HN2 := Lib.hid hn2
        clear hr7 hg7 HS6 HS7 hn2
        go_wp2_with fail
        go_end0
        exact .inl ⟨v.1, R3, .check2 HTW.out HN.out HSC.out HN2.out, rfl, HS8.out⟩
      · have hn3 : Tm.nameB (Tm.textOf R2) = false := by simpa using hn2
        have hx := name_no rb R2 E _ HS6.out.rd hn3 (by
          cases R2 with
          | nil => simp [Tm.textOf]
          | cons v R3 => exact HSZ.out v (by simp))
        have HX := Lib.hid (hx.mono fun e w' h => Bad.up HS6.out.gr h)
        have HN3 := Lib.hid hn3
        unfold Bad thrown at HX
        clear hn2 hn3 hx
        refine HX.out.mono ?_
        rintro e w7 ⟨g, en, p, rfl, h1, h2, h3⟩
        go_wp2_with fail
        refine ⟨rfl, .inr ⟨?_, g, en, p, rfl, h1, h2, h3⟩⟩
        intro r R h
        obtain ⟨u', R2', e1, h4, h5⟩ := HNOT.out r R h
        cases e1
        rcases h5 with h5 | h5
        · exact HSC.out h5
        · rw [HN3.out] at h5; cases h5
  · have hn2 : Tm.nameB (Tm.textOf R1) = false := by simpa using hn
    have hx := name_no rb R1 E _ HS3.out.rd hn2 (by
      cases R1 with
      | nil => simp [Tm.textOf]
      | cons u R2 => exact HSZ.out u (by simp))
    have hb : ∀ e w', Bad (w2.setCell ⟨xb, 9, none⟩ (.int .i64 3)) rb e w' → Bad w0 rb e w' := fun e w' h => Bad.up HS3.out.gr h
    have HX := Lib.hid (hx.mono hb)
    have HN := Lib.hid hn2
    unfold Bad thrown at HX
    clear hn hn2 hx hb
    refine HX.out.mono ?_
    rintro e w4 ⟨g, en, p, rfl, h1, h2, h3⟩
    go_wp2_with fail
    refine ⟨rfl, .inr ⟨?_, g, en, p, rfl, h1, h2, h3⟩⟩
    intro r R h
    obtain ⟨u, R2, rfl, h4, _⟩ := HNOT.out r R h
    have := HN.out
    rw [show Tm.textOf (u :: R2) = u.1 from rfl, h4] at this
    cases this
set_option maxRecDepth 100000 in
set_option maxHeartbeats 1000000 in
theorem rule_else (w0 w : World) (rb xb E : Nat) (T : List Rd.Tok) (c : C10) (st : RuSt w0 w rb xb E T c 0 [] []) (hne : ∀ t ∈ T, t.1 ≠ []) (h1 : Tm.textOf T ≠ Tm.wSize) (h2 : Tm.textOf T ≠ Tm.wCount) (h3 : Tm.textOf T ≠ Tm.wCheck) :
    Calls Tryz.prog 76 #[.pointer (some ⟨rb, 0, none⟩), .pointer (some ⟨xb, 0, none⟩)] w fun e w' => (∀ r R, ¬ Tm.RuleP T r R) ∧ Bad w0 rb e w' := by
  have hnot : ∀ r R, ¬ Tm.RuleP T r R := by
    intro r R h
    cases h with
    | size g => exact h1 g
    | count g => exact h2 g
    | check1 g => exact h3 g
    | check2 g => exact h3 g
  have HNOT := Lib.hid hnot
  have HA := Lib.hid (At_any rb T E w st.rd)
  cases T with
  | nil =>
    have hx := Pass_none rb E w st.rd
    have HX := Lib.hid (hx.mono fun e w' h => Bad.up st.gr h)
    generalize Ex.atOf E [] = at_ at *
    unfold Bad thrown at HX
    unfold Bad thrown
    clear st hnot h1 h2 h3 hx hne
    go_enter Tryz.func76, Tryz.ntmps76
    go_wp2_with fail
    refine HA.out.mono ?_
    rintro e w1 ⟨rfl, rfl⟩
    go_wp2_with fail
    refine HX.out.mono ?_
    rintro e w2 ⟨g, en, p, rfl, g1, g2, g3⟩
    go_wp2_with fail
    exact ⟨rfl, HNOT.out, g, en, p, rfl, g1, g2, g3⟩
  | cons t R1 =>
    have hP := Pass_any rb t R1 E w st.rd (hne t (by simp))
    have HP := Lib.hid hP
    have q1 : (t.1 == [115, 105, 122, 101]) = false := by rw [beq_eq_false_iff_ne]; exact h1
    have q2 : (t.1 == [99, 111, 117, 110, 116]) = false := by rw [beq_eq_false_iff_ne]; exact h2
    have q3 : (t.1 == [99, 104, 101, 99, 107]) = false := by rw [beq_eq_false_iff_ne]; exact h3
    have HGR := Lib.hid st.gr
    generalize Ex.atOf E (t :: R1) = at_ at *
    have hF := fun V => Fail_any rb 3 at_ V
    unfold thrown at hF
    have HF := Lib.hid hF
    unfold Bad thrown
    generalize t.1 = s at *
    clear st hnot h1 h2 h3 hne hP hF
    go_enter Tryz.func76, Tryz.ntmps76
    go_wp2_with fail
    refine HA.out.mono ?_
    rintro e w1 ⟨rfl, rfl⟩
    go_wp2_with fail
    refine HP.out.mono ?_
    rintro e w2 ⟨rfl, hr2, hg2⟩
    have HG2 := Lib.hid (grownBy_trans HGR.out hg2)
    clear hr2 hg2
    go_wp2_with fail
    refine (HF.out _).mono ?_
    rintro e w3 ⟨rfl, g1, g2⟩
    go_wp2_with fail
    exact ⟨rfl, HNOT.out, _, 3, at_, rfl, g1, HG2.out.size, grownBy_trans HG2.out (below_grown g2 _)⟩
end Go.Proofs.YtlpkebngehmimaaGreatDoor
end
