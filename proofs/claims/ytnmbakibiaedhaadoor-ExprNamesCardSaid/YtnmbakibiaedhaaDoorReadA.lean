/- Contracts of lex.Reader's methods. -/
import Derived.Test.YtnmbakibiaedhaaDoorLexD
import Derived.Test.YtnmbakibiaedhaaDoorPlainExpr
import Derived.Test.YtnmbakibiaedhaaDoorGrew
namespace Go.Proofs.YtnmbakibiaedhaaDoor
open Go.RowKit
set_option linter.unusedVariables false
set_option linter.unusedSimpArgs false
namespace Rd
abbrev Tok := List UInt8 × Nat
/-- tokens that lie from a on, in a row of an older block than rb -/
def TokAt (w : World) (rb : Nat) (a : Option Addr) (R : List Tok) : Prop := R = [] ∨ ∃ g off, a = some ⟨g, off, none⟩ ∧ g < rb ∧ ∀ j, j < R.length → w.cell? ⟨g, off + j * 2, none⟩ = some (.string (bstr (R.getD j ([], 0)).1)) ∧ w.cell? ⟨g, off + j * 2 + 1, none⟩ = some (.int .i64 ((R.getD j ([], 0)).2 : Nat))
/-- a reader: what is left, and where the text ends -/
def Rdr (w : World) (rb : Nat) (R : List Tok) (E : Nat) : Prop := ∃ a c, RowAt w rb 0 133 [.slice a R.length c, .int .i64 (E : Nat)] ∧ R.length ≤ c ∧ TokAt w rb a R
def textOf : List Tok → List UInt8
  | [] => []
  | t :: _ => t.1
theorem grownBy_trans {a b c : World} {r : Option Nat} (h : a.grownBy b r) (k : b.grownBy c r) : a.grownBy c r :=
  ⟨k.os.trans h.os, k.tape.trans h.tape, k.output.trans h.output, Nat.le_trans h.size k.size, fun i hi hne => (k.block i (Nat.lt_of_lt_of_le hi h.size) hne).trans (h.block i hi hne)⟩
theorem TokAt.grown {w w' : World} {rb : Nat} {a : Option Addr} {R : List Tok} (h : TokAt w rb a R) (hg : w.grownBy w' (some rb)) (hrb : rb < w.heap.size) : TokAt w' rb a R := by
  rcases h with h | ⟨g, off, h1, h2, h3⟩
  · exact .inl h
  · refine .inr ⟨g, off, h1, h2, fun j hj => ?_⟩
    have hb : w'.heap[g]? = w.heap[g]? := hg.block g (Nat.lt_trans h2 hrb) (fun e => by injection e with e; omega)
    exact ⟨(World.cell?_of_block (a := ⟨g, off + j * 2, none⟩) hb).trans (h3 j hj).1, (World.cell?_of_block (a := ⟨g, off + j * 2 + 1, none⟩) hb).trans (h3 j hj).2⟩
theorem Rdr.lt {w : World} {rb : Nat} {R : List Tok} {E : Nat} (h : Rdr w rb R E) : rb < w.heap.size := by
  obtain ⟨a, c, h, _⟩ := h
  exact h.lt
/-- what is kept by a world that but has more blocks -/
theorem Rdr.below {w w' : World} {rb : Nat} {R : List Tok} {E : Nat} (h : Rdr w rb R E) (hb : Below w.heap.size w w') : Rdr w' rb R E := by
  have hlt := h.lt
  obtain ⟨a, c, h1, h2, h3⟩ := h
  refine ⟨a, c, h1.below hb hlt, h2, ?_⟩
  rcases h3 with h | ⟨g, off, e1, e2, e3⟩
  · exact .inl h
  · refine .inr ⟨g, off, e1, e2, fun j hj => ?_⟩
    exact ⟨(hb.cell (p := ⟨g, off + j * 2, none⟩) (Nat.lt_trans e2 hlt)).trans (e3 j hj).1, (hb.cell (p := ⟨g, off + j * 2 + 1, none⟩) (Nat.lt_trans e2 hlt)).trans (e3 j hj).2⟩
theorem below_grown {w w' : World} (h : Below w.heap.size w w') (r : Option Nat) : w.grownBy w' r := ⟨h.os, h.tape, h.output, h.size, fun k hk _ => h.block k hk⟩
end Rd
open Rd
set_option maxRecDepth 100000 in
theorem At_any (rb : Nat) (R : List Tok) (E : Nat) (w : World) (h : Rdr w rb R E) :
    Calls Tryd.prog 40 #[.pointer (some ⟨rb, 0, none⟩)] w fun e w' => e = .returned (.int .i64 (Ex.atOf E R : Nat)) ∧ w' = w := by
  obtain ⟨a, c, h1, h2, h3⟩ := h
  have c0 := h1.cell0 0 (by simp)
  have c1 := h1.cell0 1 (by simp)
  simp only [List.getElem_cons_zero, List.getElem_cons_succ] at c0 c1
  cases R with
  | nil =>
    rw [List.length_nil] at c0
    go_enter Tryd.func40, Tryd.ntmps40
    go_wp2_with fail
    go_ret
    exact ⟨rfl, rfl⟩
  | cons t R =>
    rcases h3 with h | ⟨g, off, rfl, e2, e3⟩
    · cases h
    have ct := (e3 0 (by simp)).2
    simp only [List.getD_cons_zero, Nat.zero_mul, Nat.add_zero] at ct
    have hl : (((t :: R).length : Int) == 0) = false := by rw [beq_eq_false_iff_ne, List.length_cons]; omega
    have hln : ((t :: R).length == 0) = false := by rw [beq_eq_false_iff_ne, List.length_cons]; omega
    have hpos : (0 : Int) < ((t :: R).length : Int) := by rw [List.length_cons]; omega
    have hposn : 0 < (t :: R).length := by rw [List.length_cons]; omega
    obtain ⟨n, hn⟩ : ∃ n, n = (t :: R).length := ⟨_, rfl⟩
    rw [← hn] at c0 hl hln hpos hposn
    clear hn h1 h2 e3
    go_enter Tryd.func40, Tryd.ntmps40
    go_wp2_with fail
    go_ret
    exact ⟨rfl, rfl⟩
set_option maxRecDepth 100000 in
theorem Text_any (rb : Nat) (R : List Tok) (E : Nat) (w : World) (h : Rdr w rb R E) :
    Calls Tryd.prog 38 #[.pointer (some ⟨rb, 0, none⟩)] w fun e w' => e = .returned (.string (bstr (textOf R))) ∧ w' = w := by
  obtain ⟨a, c, h1, h2, h3⟩ := h
  have c0 := h1.cell0 0 (by simp)
  simp only [List.getElem_cons_zero] at c0
  cases R with
  | nil =>
    rw [List.length_nil] at c0
    go_enter Tryd.func38, Tryd.ntmps38
    go_wp2_with fail
    go_ret
    exact ⟨rfl, rfl⟩
  | cons t R =>
    rcases h3 with h | ⟨g, off, rfl, e2, e3⟩
    · cases h
    have ct := (e3 0 (by simp)).1
    simp only [List.getD_cons_zero, Nat.zero_mul, Nat.add_zero] at ct
    have hl : (((t :: R).length : Int) == 0) = false := by rw [beq_eq_false_iff_ne, List.length_cons]; omega
    have hln : ((t :: R).length == 0) = false := by rw [beq_eq_false_iff_ne, List.length_cons]; omega
    have hpos : (0 : Int) < ((t :: R).length : Int) := by rw [List.length_cons]; omega
    have hposn : 0 < (t :: R).length := by rw [List.length_cons]; omega
    obtain ⟨n, hn⟩ : ∃ n, n = (t :: R).length := ⟨_, rfl⟩
    rw [← hn] at c0 hl hln hpos hposn
    clear hn h1 h2 e3
    go_enter Tryd.func38, Tryd.ntmps38
    go_wp2_with fail
    go_ret
    exact ⟨rfl, rfl⟩
/-- what is thrown -/
def thrown (g : Nat) : Ending := .panicked [{ v := .iface 135 (.agg #[.iface 88 (.pointer (some ⟨g, 0, none⟩))]), recovered := false }]
set_option maxRecDepth 100000 in
theorem Fail_any (rb : Nat) (e p : Nat) (w : World) :
    Calls Tryd.prog 39 #[.pointer (some ⟨rb, 0, none⟩), .int .i64 (e : Nat), .int .i64 (p : Nat)] w fun en w' => en = thrown w.heap.size ∧ RowAt w' w.heap.size 0 90 [.int .i64 (e : Nat), .int .i64 (p : Nat)] ∧ Below w.heap.size w w' := by
  have hrow := RowAt.new w 90 #[.int .i64 (e : Nat), .int .i64 (p : Nat)]
  have hb := (Below.refl w.heap.size w).alloc (Nat.le_refl _) (.cells #[.int .i64 (e : Nat), .int .i64 (p : Nat)] 90)
  go_enter Tryd.func39, Tryd.ntmps39
  go_wp2_with fail
  exact ⟨rfl, rfl, hrow, hb⟩
/-- one token less -/
theorem Rd.Rdr.next {w : World} {rb : Nat} {t : Tok} {R : List Tok} {E : Nat} (h : Rdr w rb (t :: R) E) : ∃ g off c, w.cell? ⟨rb, 0, none⟩ = some (.slice (some ⟨g, off, none⟩) (R.length + 1) c) ∧ w.frozen? ⟨rb, 0, none⟩ = false ∧ R.length + 1 ≤ c ∧
    (∀ a', (R.length + 1 < c ∨ R = [] → a' = some ⟨g, off + 2, none⟩ ∨ R = []) → (c = R.length + 1 → R = [] ∨ a' = some ⟨g, off + 2, none⟩) → Rdr (w.setCell ⟨rb, 0, none⟩ (.slice a' R.length (c - 1))) rb R E ∧ w.grownBy (w.setCell ⟨rb, 0, none⟩ (.slice a' R.length (c - 1))) (some rb)) := by
  have hrb := h.lt
  obtain ⟨a, c, h1, h2, h3⟩ := h
  rw [List.length_cons] at h1 h2
  rcases h3 with h | ⟨g, off, rfl, e2, e3⟩
  · cases h
  have c0 := h1.cell0 0 (by simp)
  simp only [List.getElem_cons_zero] at c0
  refine ⟨g, off, c, c0, h1.frozen 0 (by simp), h2, fun a' ha hc => ?_⟩
  have hg := grown_set (grown_refl w (some rb)) (p := ⟨rb, 0, none⟩) rfl (.slice a' R.length (c - 1))
  refine ⟨⟨a', c - 1, ?_, by omega, ?_⟩, hg⟩
  · have := h1.set0 0 (by simp) (.slice a' R.length (c - 1))
    exact this
  · by_cases hR : R = []
    · exact .inl hR
    · have ha2 : a' = some ⟨g, off + 2, none⟩ := by
        rcases Nat.lt_or_ge (R.length + 1) c with hlt | hge
        · rcases ha (.inl hlt) with h | h
          · exact h
          · exact absurd h hR
        · rcases hc (by omega) with h | h
          · exact absurd h hR
          · exact h
      refine .inr ⟨g, off + 2, ha2, e2, fun j hj => ?_⟩
      have hb : (w.setCell ⟨rb, 0, none⟩ (.slice a' R.length (c - 1))).heap[g]? = w.heap[g]? := hg.block g (by omega) (fun e => by injection e with e; omega)
      have h9 := e3 (j + 1) (by rw [List.length_cons]; omega)
      rw [List.getD_cons_succ] at h9
      have e1 : off + (j + 1) * 2 = off + 2 + j * 2 := by omega
      rw [e1] at h9
      exact ⟨(World.cell?_of_block (a := ⟨g, off + 2 + j * 2, none⟩) hb).trans h9.1, (World.cell?_of_block (a := ⟨g, off + 2 + j * 2 + 1, none⟩) hb).trans h9.2⟩
set_option maxRecDepth 100000 in
theorem Take_yes (rb : Nat) (t : Tok) (R : List Tok) (E : Nat) (w : World) (h : Rdr w rb (t :: R) E) (ht : t.1 ≠ []) :
    Calls Tryd.prog 83 #[.pointer (some ⟨rb, 0, none⟩), .string (bstr t.1)] w fun e w' => e = .returned (.bool true) ∧ Rdr w' rb R E ∧ w.grownBy w' (some rb) := by
  have HT := Lib.hid (Text_any rb (t :: R) E w h)
  have hemp : (t.1 == []) = false := by rw [beq_eq_false_iff_ne]; exact ht
  have hemp2 : t.1.isEmpty = false := by cases h9 : t.1 with | nil => exact absurd h9 ht | cons a b => rfl
  have hto : textOf (t :: R) = t.1 := rfl
  rw [hto] at HT
  obtain ⟨g, off, c, c0, hf, hc, hK⟩ := h.next
  have HK := Lib.hid hK
  generalize t.1 = s at *
  obtain ⟨n, hn⟩ : ∃ n, n = R.length := ⟨_, rfl⟩
  rw [← hn] at HK c0 hc
  have HN := Lib.hid hn
  have h1c : (1 : Int) ≤ (n : Int) + 1 := by omega
  have h1n : 1 ≤ n + 1 := by omega
  have hnc : (n : Int) + 1 ≤ (c : Int) := by omega
  clear hK h ht hn hto
  by_cases hcap : c = 1
  · subst hcap
    have hR : R = [] := List.eq_nil_of_length_eq_zero (by have := HN.out; omega)
    have hn0 : n = 0 := by omega
    have hK1 := HK.out (some ⟨g, off, none⟩) (fun _ => .inr hR) (fun _ => .inl hR)
    rw [hn0] at hK1
    clear hR hn0
    go_enter Tryd.func83, Tryd.ntmps83
    go_wp2_with fail
    refine HT.out.mono ?_
    rintro e w1 ⟨rfl, rfl⟩
    go_wp2_with fail
    go_ret
    exact ⟨rfl, hK1⟩
  · have hcap2 : ¬ 1 = c := fun e => hcap e.symm
    have HK1 := Lib.hid (HK.out (some ⟨g, off + 2, none⟩) (fun _ => .inl rfl) (fun _ => .inr rfl))
    go_enter Tryd.func83, Tryd.ntmps83
    go_wp2_with fail
    refine HT.out.mono ?_
    rintro e w1 ⟨rfl, rfl⟩
    go_wp2_with fail
    go_ret
    exact ⟨rfl, HK1.out⟩
set_option maxRecDepth 100000 in
theorem Take_no (rb : Nat) (R : List Tok) (E : Nat) (s : List UInt8) (w : World) (h : Rdr w rb R E) (hs : s ≠ []) (hno : textOf R ≠ s) :
    Calls Tryd.prog 83 #[.pointer (some ⟨rb, 0, none⟩), .string (bstr s)] w fun e w' => e = .returned (.bool false) ∧ w' = w := by
  have HT := Lib.hid (Text_any rb R E w h)
  generalize textOf R = x at *
  have hne : (x == s) = false := by rw [beq_eq_false_iff_ne]; exact hno
  have hne2 : (x != s) = true := by rw [bne_iff_ne]; exact hno
  clear hno h
  go_enter Tryd.func83, Tryd.ntmps83
  go_wp2_with fail
  refine HT.out.mono ?_
  rintro e w1 ⟨rfl, rfl⟩
  go_wp2_with fail
  go_ret
  exact ⟨rfl, rfl⟩
set_option maxRecDepth 100000 in
theorem Pass_any (rb : Nat) (t : Tok) (R : List Tok) (E : Nat) (w : World) (h : Rdr w rb (t :: R) E) (ht : t.1 ≠ []) :
    Calls Tryd.prog 85 #[.pointer (some ⟨rb, 0, none⟩)] w fun e w' => e = .returned (.string (bstr t.1)) ∧ Rdr w' rb R E ∧ w.grownBy w' (some rb) := by
  have HT := Lib.hid (Text_any rb (t :: R) E w h)
  have hemp : (t.1 == []) = false := by rw [beq_eq_false_iff_ne]; exact ht
  have hemp2 : t.1.isEmpty = false := by cases h9 : t.1 with | nil => exact absurd h9 ht | cons a b => rfl
  have hto : textOf (t :: R) = t.1 := rfl
  rw [hto] at HT
  obtain ⟨g, off, c, c0, hf, hc, hK⟩ := h.next
  have HK := Lib.hid hK
  generalize t.1 = s at *
  obtain ⟨n, hn⟩ : ∃ n, n = R.length := ⟨_, rfl⟩
  rw [← hn] at HK c0 hc
  have HN := Lib.hid hn
  have h1c : (1 : Int) ≤ (n : Int) + 1 := by omega
  have h1n : 1 ≤ n + 1 := by omega
  have hnc : (n : Int) + 1 ≤ (c : Int) := by omega
  clear hK h ht hn hto
  by_cases hcap : c = 1
  · subst hcap
    have hR : R = [] := List.eq_nil_of_length_eq_zero (by have := HN.out; omega)
    have hn0 : n = 0 := by omega
    have hK1 := HK.out (some ⟨g, off, none⟩) (fun _ => .inr hR) (fun _ => .inl hR)
    rw [hn0] at hK1
    clear hR hn0
    go_enter Tryd.func85, Tryd.ntmps85
    go_wp2_with fail
    refine HT.out.mono ?_
    rintro e w1 ⟨rfl, rfl⟩
    go_wp2_with fail
    go_ret
    exact ⟨rfl, hK1⟩
  · have hcap2 : ¬ 1 = c := fun e => hcap e.symm
    have HK1 := Lib.hid (HK.out (some ⟨g, off + 2, none⟩) (fun _ => .inl rfl) (fun _ => .inr rfl))
    go_enter Tryd.func85, Tryd.ntmps85
    go_wp2_with fail
    refine HT.out.mono ?_
    rintro e w1 ⟨rfl, rfl⟩
    go_wp2_with fail
    go_ret
    exact ⟨rfl, HK1.out⟩
set_option maxRecDepth 100000 in
theorem Must_yes (rb : Nat) (t : Tok) (R : List Tok) (E : Nat) (w : World) (h : Rdr w rb (t :: R) E) (ht : t.1 ≠ []) :
    Calls Tryd.prog 50 #[.pointer (some ⟨rb, 0, none⟩), .string (bstr t.1)] w fun e w' => e = .returned (.tuple #[]) ∧ Rdr w' rb R E ∧ w.grownBy w' (some rb) := by
  have HT := Lib.hid (Take_yes rb t R E w h ht)
  generalize t.1 = s at *
  clear h
  go_enter Tryd.func50, Tryd.ntmps50
  go_wp2_with fail
  refine HT.out.mono ?_
  rintro e w1 ⟨rfl, h1, h2⟩
  go_wp2_with fail
  go_end0
  exact ⟨rfl, h1, h2⟩
set_option maxRecDepth 100000 in
theorem Must_no (rb : Nat) (R : List Tok) (E : Nat) (s : List UInt8) (w : World) (h : Rdr w rb R E) (hs : s ≠ []) (hno : textOf R ≠ s) :
    Calls Tryd.prog 50 #[.pointer (some ⟨rb, 0, none⟩), .string (bstr s)] w fun en w' => en = thrown w.heap.size ∧ RowAt w' w.heap.size 0 90 [.int .i64 3, .int .i64 (Ex.atOf E R : Nat)] ∧ Below w.heap.size w w' := by
  have HT := Lib.hid (Take_no rb R E s w h hs hno)
  have HA := Lib.hid (At_any rb R E w h)
  generalize Ex.atOf E R = p at *
  have hf := Fail_any rb 3 p w
  unfold thrown at hf ⊢
  have HF := Lib.hid hf
  clear h hno hf
  go_enter Tryd.func50, Tryd.ntmps50
  go_wp2_with fail
  refine HT.out.mono ?_
  rintro e w1 ⟨rfl, rfl⟩
  go_wp2_with fail
  refine HA.out.mono ?_
  rintro e w2 ⟨rfl, rfl⟩
  go_wp2_with fail
  refine HF.out.mono ?_
  rintro e w3 ⟨rfl, h1, h2⟩
  go_wp2_with fail
  exact ⟨rfl, rfl, h1, h2⟩
end Go.Proofs.YtnmbakibiaedhaaDoor
