/- What the program's table says of some element types. -/
import Derived.Test.YtlpkebngehmimaaGreatDoorChecked
import Derived.BigRegion
import Derived.Test.YtlpkebngehmimaaGreatDoorMgTypesMore4
import Derived.Test.YtlpkebngehmimaaGreatDoorMgTypesMore5
import Derived.Test.YtlpkebngehmimaaGreatDoorMgTypesMore2
import Derived.Test.YtlpkebngehmimaaGreatDoorMgTypesMore1
section
/- Contracts of lex.Reader's methods. -/
namespace Go.Proofs.YtlpkebngehmimaaGreatDoor
open Go.RowKit
set_option linter.unusedVariables false
set_option linter.unusedSimpArgs false
namespace Rd
abbrev Tok := List UInt8 × Nat
/-- tokens that lie from a on, in a row of an older block than rb -/
def TokAt (w : World) (rb : Nat) (a : Option Addr) (R : List Tok) : Prop := R = [] ∨ ∃ g off, a = some ⟨g, off, none⟩ ∧ g < rb ∧ ∀ j, j < R.length → w.cell? ⟨g, off + j * 2, none⟩ = some (.string (bstr (R.getD j ([], 0)).1)) ∧ w.cell? ⟨g, off + j * 2 + 1, none⟩ = some (.int .i64 ((R.getD j ([], 0)).2 : Nat))
/-- a reader: what is left, and where the text ends -/
def Rdr (w : World) (rb : Nat) (R : List Tok) (E : Nat) : Prop := ∃ a c, RowAt w rb 0 103 [.slice a R.length c, .int .i64 (E : Nat)] ∧ R.length ≤ c ∧ TokAt w rb a R
def textOf : List Tok → List UInt8
  | [] => []
  | t :: _ => t.1
theorem grownBy_trans {a b c : World} {r : Option Nat} (h : a.grownBy b r) (k : b.grownBy c r) : a.grownBy c r :=
  ⟨k.os.trans h.os, k.tape.trans h.tape, k.output.trans h.output, Nat.le_trans h.size k.size, fun i hi hne => (k.block i (Nat.lt_of_lt_of_le hi h.size) hne).trans (h.block i hi hne)⟩
theorem TokAt.grown {w w' : World} {rb : Nat} {a : Option Addr} {R : List Tok} (h : TokAt w rb a R) (hg : w.grownBy w' (some rb)) (hrb : rb < w.heap.size) : TokAt w' rb a R := by
  rcases h with h | ⟨g, off, h1, h2, h3⟩
  · exact .inl h
  · refine .inr ⟨g, off, h1, h2, fun j hj => ?_⟩
    have hb : w'.heap[g]? = w.heap[g]? := hg.block g (Nat.lt_trans h2 hrb) (fun e => by injection e with e; omega)
    exact ⟨(World.cell?_of_block (a := ⟨g, off + j * 2, none⟩) hb).trans (h3 j hj).1, (World.cell?_of_block (a := ⟨g, off + j * 2 + 1, none⟩) hb).trans (h3 j hj).2⟩
theorem Rdr.lt {w : World} {rb : Nat} {R : List Tok} {E : Nat} (h : Rdr w rb R E) : rb < w.heap.size := by
  obtain ⟨a, c, h, _⟩ := h
  exact h.lt
/-- what is kept by a world that but has more blocks -/
theorem Rdr.below {w w' : World} {rb : Nat} {R : List Tok} {E : Nat} (h : Rdr w rb R E) (hb : Below w.heap.size w w') : Rdr w' rb R E := by
  have hlt := h.lt
  obtain ⟨a, c, h1, h2, h3⟩ := h
  refine ⟨a, c, h1.below hb hlt, h2, ?_⟩
  rcases h3 with h | ⟨g, off, e1, e2, e3⟩
  · exact .inl h
  · refine .inr ⟨g, off, e1, e2, fun j hj => ?_⟩
    exact ⟨(hb.cell (p := ⟨g, off + j * 2, none⟩) (Nat.lt_trans e2 hlt)).trans (e3 j hj).1, (hb.cell (p := ⟨g, off + j * 2 + 1, none⟩) (Nat.lt_trans e2 hlt)).trans (e3 j hj).2⟩
theorem below_grown {w w' : World} (h : Below w.heap.size w w') (r : Option Nat) : w.grownBy w' r := ⟨h.os, h.tape, h.output, h.size, fun k hk _ => h.block k hk⟩
end Rd
open Rd
set_option maxRecDepth 100000 in
theorem At_any (rb : Nat) (R : List Tok) (E : Nat) (w : World) (h : Rdr w rb R E) :
    Calls Tryz.prog 24 #[.pointer (some ⟨rb, 0, none⟩)] w fun e w' => e = .returned (.int .i64 (Ex.atOf E R : Nat)) ∧ w' = w := by
  obtain ⟨a, c, h1, h2, h3⟩ := h
  have c0 := h1.cell0 0 (by simp)
  have c1 := h1.cell0 1 (by simp)
  simp only [List.getElem_cons_zero, List.getElem_cons_succ] at c0 c1
  cases R with
  | nil =>
    rw [List.length_nil] at c0
    go_enter Tryz.func24, Tryz.ntmps24
    go_wp2_with fail
    go_ret
    exact ⟨rfl, rfl⟩
  | cons t R =>
    rcases h3 with h | ⟨g, off, rfl, e2, e3⟩
    · cases h
    have ct := (e3 0 (by simp)).2
    simp only [List.getD_cons_zero, Nat.zero_mul, Nat.add_zero] at ct
    have hl : (((t :: R).length : Int) == 0) = false := by rw [beq_eq_false_iff_ne, List.length_cons]; omega
    have hln : ((t :: R).length == 0) = false := by rw [beq_eq_false_iff_ne, List.length_cons]; omega
    have hpos : (0 : Int) < ((t :: R).length : Int) := by rw [List.length_cons]; omega
    have hposn : 0 < (t :: R).length := by rw [List.length_cons]; omega
    obtain ⟨n, hn⟩ : ∃ n, n = (t :: R).length := ⟨_, rfl⟩
    rw [← hn] at c0 hl hln hpos hposn
    clear hn h1 h2 e3
    go_enter Tryz.func24, Tryz.ntmps24
    go_wp2_with fail
    go_ret
    exact ⟨rfl, rfl⟩
set_option maxRecDepth 100000 in
theorem Text_any (rb : Nat) (R : List Tok) (E : Nat) (w : World) (h : Rdr w rb R E) :
    Calls Tryz.prog 22 #[.pointer (some ⟨rb, 0, none⟩)] w fun e w' => e = .returned (.string (bstr (textOf R))) ∧ w' = w := by
  obtain ⟨a, c, h1, h2, h3⟩ := h
  have c0 := h1.cell0 0 (by simp)
  simp only [List.getElem_cons_zero] at c0
  cases R with
  | nil =>
    rw [List.length_nil] at c0
    go_enter Tryz.func22, Tryz.ntmps22
    go_wp2_with fail
    go_ret
    exact ⟨rfl, rfl⟩
  | cons t R =>
    rcases h3 with h | ⟨g, off, rfl, e2, e3⟩
    · cases h
    have ct := (e3 0 (by simp)).1
    simp only [List.getD_cons_zero, Nat.zero_mul, Nat.add_zero] at ct
    have hl : (((t :: R).length : Int) == 0) = false := by rw [beq_eq_false_iff_ne, List.length_cons]; omega
    have hln : ((t :: R).length == 0) = false := by rw [beq_eq_false_iff_ne, List.length_cons]; omega
    have hpos : (0 : Int) < ((t :: R).length : Int) := by rw [List.length_cons]; omega
    have hposn : 0 < (t :: R).length := by rw [List.length_cons]; omega
    obtain ⟨n, hn⟩ : ∃ n, n = (t :: R).length := ⟨_, rfl⟩
    rw [← hn] at c0 hl hln hpos hposn
    clear hn h1 h2 e3
    go_enter Tryz.func22, Tryz.ntmps22
    go_wp2_with fail
    go_ret
    exact ⟨rfl, rfl⟩
/-- what is thrown -/
def thrown (g : Nat) : Ending := .panicked [{ v := .iface 105 (.agg #[.iface 109 (.pointer (some ⟨g, 0, none⟩))]), recovered := false }]
set_option maxRecDepth 100000 in
theorem Fail_any (rb : Nat) (e p : Nat) (w : World) :
    Calls Tryz.prog 23 #[.pointer (some ⟨rb, 0, none⟩), .int .i64 (e : Nat), .int .i64 (p : Nat)] w fun en w' => en = thrown w.heap.size ∧ RowAt w' w.heap.size 0 111 [.int .i64 (e : Nat), .int .i64 (p : Nat)] ∧ Below w.heap.size w w' := by
  have hrow := RowAt.new w 111 #[.int .i64 (e : Nat), .int .i64 (p : Nat)]
  have hb := (Below.refl w.heap.size w).alloc (Nat.le_refl _) (.cells #[.int .i64 (e : Nat), .int .i64 (p : Nat)] 111)
  go_enter Tryz.func23, Tryz.ntmps23
  go_wp2_with fail
  exact ⟨rfl, rfl, hrow, hb⟩
/-- one token less -/
theorem Rd.Rdr.next {w : World} {rb : Nat} {t : Tok} {R : List Tok} {E : Nat} (h : Rdr w rb (t :: R) E) : ∃ g off c, w.cell? ⟨rb, 0, none⟩ = some (.slice (some ⟨g, off, none⟩) (R.length + 1) c) ∧ w.frozen? ⟨rb, 0, none⟩ = false ∧ R.length + 1 ≤ c ∧
    (∀ a', (R.length + 1 < c ∨ R = [] → a' = some ⟨g, off + 2, none⟩ ∨ R = []) → (c = R.length + 1 → R = [] ∨ a' = some ⟨g, off + 2, none⟩) → Rdr (w.setCell ⟨rb, 0, none⟩ (.slice a' R.length (c - 1))) rb R E ∧ w.grownBy (w.setCell ⟨rb, 0, none⟩ (.slice a' R.length (c - 1))) (some rb)) := by
  have hrb := h.lt
  obtain ⟨a, c, h1, h2, h3⟩ := h
  rw [List.length_cons] at h1 h2
  rcases h3 with h | ⟨g, off, rfl, e2, e3⟩
  · cases h
  have c0 := h1.cell0 0 (by simp)
  simp only [List.getElem_cons_zero] at c0
  refine ⟨g, off, c, c0, h1.frozen 0 (by simp), h2, fun a' ha hc => ?_⟩
  have hg := grown_set (grown_refl w (some rb)) (p := ⟨rb, 0, none⟩) rfl (.slice a' R.length (c - 1))
  refine ⟨⟨a', c - 1, ?_, by omega, ?_⟩, hg⟩
  · have := h1.set0 0 (by simp) (.slice a' R.length (c - 1))
    exact this
  · by_cases hR : R = []
    · exact .inl hR
    · have ha2 : a' = some ⟨g, off + 2, none⟩ := by
        rcases Nat.lt_or_ge (R.length + 1) c with hlt | hge
        · rcases ha (.inl hlt) with h | h
          · exact h
          · exact absurd h hR
        · rcases hc (by omega) with h | h
          · exact absurd h hR
          · exact h
      refine .inr ⟨g, off + 2, ha2, e2, fun j hj => ?_⟩
      have hb : (w.setCell ⟨rb, 0, none⟩ (.slice a' R.length (c - 1))).heap[g]? = w.heap[g]? := hg.block g (by omega) (fun e => by injection e with e; omega)
      have h9 := e3 (j + 1) (by rw [List.length_cons]; omega)
      rw [List.getD_cons_succ] at h9
      have e1 : off + (j + 1) * 2 = off + 2 + j * 2 := by omega
      rw [e1] at h9
      exact ⟨(World.cell?_of_block (a := ⟨g, off + 2 + j * 2, none⟩) hb).trans h9.1, (World.cell?_of_block (a := ⟨g, off + 2 + j * 2 + 1, none⟩) hb).trans h9.2⟩
set_option maxRecDepth 100000 in
theorem Take_yes (rb : Nat) (t : Tok) (R : List Tok) (E : Nat) (w : World) (h : Rdr w rb (t :: R) E) (ht : t.1 ≠ []) :
    Calls Tryz.prog 45 #[.pointer (some ⟨rb, 0, none⟩), .string (bstr t.1)] w fun e w' => e = .returned (.bool true) ∧ Rdr w' rb R E ∧ w.grownBy w' (some rb) := by
  have HT := Lib.hid (Text_any rb (t :: R) E w h)
  have hemp : (t.1 == []) = false := by rw [beq_eq_false_iff_ne]; exact ht
  have hemp2 : t.1.isEmpty = false := by cases h9 : t.1 with | nil => exact absurd h9 ht | cons a b => rfl
  have hto : textOf (t :: R) = t.1 := rfl
  rw [hto] at HT
  obtain ⟨g, off, c, c0, hf, hc, hK⟩ := h.next
  have HK := Lib.hid hK
  generalize t.1 = s at *
  obtain ⟨n, hn⟩ : ∃ n, n = R.length := ⟨_, rfl⟩
  rw [← hn] at HK c0 hc
  have HN := Lib.hid hn
  have h1c : (1 : Int) ≤ (n : Int) + 1 := by omega
  have h1n : 1 ≤ n + 1 := by omega
  have hnc : (n : Int) + 1 ≤ (c : Int) := by omega
  clear hK h ht hn hto
  by_cases hcap : c = 1
  · subst hcap
    have hR : R = [] := List.eq_nil_of_length_eq_zero (by have := HN.out; omega)
    have hn0 : n = 0 := by omega
    have hK1 := HK.out (some ⟨g, off, none⟩) (fun _ => .inr hR) (fun _ => .inl hR)
    rw [hn0] at hK1
    clear hR hn0
    go_enter Tryz.func45, Tryz.ntmps45
    go_wp2_with fail
    refine HT.out.mono ?_
    rintro e w1 ⟨rfl, rfl⟩
    go_wp2_with fail
    go_ret
    exact ⟨rfl, hK1⟩
  · have hcap2 : ¬ 1 = c := fun e => hcap e.symm
    have HK1 := Lib.hid (HK.out (some ⟨g, off + 2, none⟩) (fun _ => .inl rfl) (fun _ => .inr rfl))
    go_enter Tryz.func45, Tryz.ntmps45
    go_wp2_with fail
    refine HT.out.mono ?_
    rintro e w1 ⟨rfl, rfl⟩
    go_wp2_with fail
    go_ret
    exact ⟨rfl, HK1.out⟩
set_option maxRecDepth 100000 in
theorem Take_no (rb : Nat) (R : List Tok) (E : Nat) (s : List UInt8) (w : World) (h : Rdr w rb R E) (hs : s ≠ []) (hno : textOf R ≠ s) :
    Calls Tryz.prog 45 #[.pointer (some ⟨rb, 0, none⟩), .string (bstr s)] w fun e w' => e = .returned (.bool false) ∧ w' = w := by
  have HT := Lib.hid (Text_any rb R E w h)
  generalize textOf R = x at *
  have hne : (x == s) = false := by rw [beq_eq_false_iff_ne]; exact hno
  have hne2 : (x != s) = true := by rw [bne_iff_ne]; exact hno
  clear hno h
  go_enter Tryz.func45, Tryz.ntmps45
  go_wp2_with fail
  refine HT.out.mono ?_
  rintro e w1 ⟨rfl, rfl⟩
  go_wp2_with fail
  go_ret
  exact ⟨rfl, rfl⟩
set_option maxRecDepth 100000 in
theorem Pass_any (rb : Nat) (t : Tok) (R : List Tok) (E : Nat) (w : World) (h : Rdr w rb (t :: R) E) (ht : t.1 ≠ []) :
    Calls Tryz.prog 48 #[.pointer (some ⟨rb, 0, none⟩)] w fun e w' => e = .returned (.string (bstr t.1)) ∧ Rdr w' rb R E ∧ w.grownBy w' (some rb) := by
  have HT := Lib.hid (Text_any rb (t :: R) E w h)
  have hemp : (t.1 == []) = false := by rw [beq_eq_false_iff_ne]; exact ht
  have hemp2 : t.1.isEmpty = false := by cases h9 : t.1 with | nil => exact absurd h9 ht | cons a b => rfl
  have hto : textOf (t :: R) = t.1 := rfl
  rw [hto] at HT
  obtain ⟨g, off, c, c0, hf, hc, hK⟩ := h.next
  have HK := Lib.hid hK
  generalize t.1 = s at *
  obtain ⟨n, hn⟩ : ∃ n, n = R.length := ⟨_, rfl⟩
  rw [← hn] at HK c0 hc
  have HN := Lib.hid hn
  have h1c : (1 : Int) ≤ (n : Int) + 1 := by omega
  have h1n : 1 ≤ n + 1 := by omega
  have hnc : (n : Int) + 1 ≤ (c : Int) := by omega
  clear hK h ht hn hto
  by_cases hcap : c = 1
  · subst hcap
    have hR : R = [] := List.eq_nil_of_length_eq_zero (by have := HN.out; omega)
    have hn0 : n = 0 := by omega
    have hK1 := HK.out (some ⟨g, off, none⟩) (fun _ => .inr hR) (fun _ => .inl hR)
    rw [hn0] at hK1
    clear hR hn0
    go_enter Tryz.func48, Tryz.ntmps48
    go_wp2_with fail
    refine HT.out.mono ?_
    rintro e w1 ⟨rfl, rfl⟩
    go_wp2_with fail
    go_ret
    exact ⟨rfl, hK1⟩
  · have hcap2 : ¬ 1 = c := fun e => hcap e.symm
    have HK1 := Lib.hid (HK.out (some ⟨g, off + 2, none⟩) (fun _ => .inl rfl) (fun _ => .inr rfl))
    go_enter Tryz.func48, Tryz.ntmps48
    go_wp2_with fail
    refine HT.out.mono ?_
    rintro e w1 ⟨rfl, rfl⟩
    go_wp2_with fail
    go_ret
    exact ⟨rfl, HK1.out⟩
set_option maxRecDepth 100000 in
theorem Must_yes (rb : Nat) (t : Tok) (R : List Tok) (E : Nat) (w : World) (h : Rdr w rb (t :: R) E) (ht : t.1 ≠ []) :
    Calls Tryz.prog 25 #[.pointer (some ⟨rb, 0, none⟩), .string (bstr t.1)] w fun e w' => e = .returned (.tuple #[]) ∧ Rdr w' rb R E ∧ w.grownBy w' (some rb) := by
  have HT := Lib.hid (Take_yes rb t R E w h ht)
  generalize t.1 = s at *
  clear h
  go_enter Tryz.func25, Tryz.ntmps25
  go_wp2_with fail
  refine HT.out.mono ?_
  rintro e w1 ⟨rfl, h1, h2⟩
  go_wp2_with fail
  go_end0
  exact ⟨rfl, h1, h2⟩
set_option maxRecDepth 100000 in
theorem Must_no (rb : Nat) (R : List Tok) (E : Nat) (s : List UInt8) (w : World) (h : Rdr w rb R E) (hs : s ≠ []) (hno : textOf R ≠ s) :
    Calls Tryz.prog 25 #[.pointer (some ⟨rb, 0, none⟩), .string (bstr s)] w fun en w' => en = thrown w.heap.size ∧ RowAt w' w.heap.size 0 111 [.int .i64 3, .int .i64 (Ex.atOf E R : Nat)] ∧ Below w.heap.size w w' := by
  have HT := Lib.hid (Take_no rb R E s w h hs hno)
  have HA := Lib.hid (At_any rb R E w h)
  generalize Ex.atOf E R = p at *
  have hf := Fail_any rb 3 p w
  unfold thrown at hf ⊢
  have HF := Lib.hid hf
  clear h hno hf
  go_enter Tryz.func25, Tryz.ntmps25
  go_wp2_with fail
  refine HT.out.mono ?_
  rintro e w1 ⟨rfl, rfl⟩
  go_wp2_with fail
  refine HA.out.mono ?_
  rintro e w2 ⟨rfl, rfl⟩
  go_wp2_with fail
  refine HF.out.mono ?_
  rintro e w3 ⟨rfl, h1, h2⟩
  go_wp2_with fail
  exact ⟨rfl, rfl, h1, h2⟩
end Go.Proofs.YtlpkebngehmimaaGreatDoor
end
section
/- Contracts of slices.Reverse at []int and []byte, of a row of the call's own. -/
namespace Go.Proofs.YtlpkebngehmimaaGreatDoor
open Go.RowKit
set_option linter.unusedVariables false
set_option linter.unusedSimpArgs false
theorem bvals_setI (l : List UInt8) (i : Nat) (b : UInt8) : (bvals l).set i (.int .u8 ((b.toNat : Nat) : Int)) = bvals (l.set i b) := bvals_set l i b
/-- two places of a list change -/
def swapL {α : Type} (xs : List α) (d : α) (i j : Nat) : List α := (xs.set i (xs.getD j d)).set j (xs.getD i d)
/-- i bytes of either end are turned round -/
def revTo {α : Type} (xs : List α) (k : Nat) : List α := (xs.drop (xs.length - k)).reverse ++ (xs.drop k).take (xs.length - 2 * k) ++ (xs.take k).reverse
theorem revTo_length {α : Type} (xs : List α) (k : Nat) (h : 2 * k ≤ xs.length) : (revTo xs k).length = xs.length := by simp [revTo]; omega
theorem revTo_zero {α : Type} (xs : List α) : revTo xs 0 = xs := by simp [revTo]
theorem revTo_get {α : Type} (xs : List α) (k : Nat) (h : 2 * k ≤ xs.length) (q : Nat) (hq : q < xs.length) :
    (revTo xs k)[q]? = if q < k ∨ xs.length - k ≤ q then xs[xs.length - 1 - q]? else xs[q]? := by
  unfold revTo
  rw [List.append_assoc]
  by_cases h1 : q < k
  · rw [if_pos (.inl h1), List.getElem?_append_left (by simp; omega), List.getElem?_reverse (by simp; omega), List.getElem?_drop, List.length_drop]
    congr 1; omega
  · rw [List.getElem?_append_right (by simp; omega)]
    have hl1 : (xs.drop (xs.length - k)).reverse.length = k := by simp; omega
    rw [hl1]
    by_cases h2 : xs.length - k ≤ q
    · rw [if_pos (.inr h2), List.getElem?_append_right (by simp; omega)]
      have hl2 : ((xs.drop k).take (xs.length - 2 * k)).length = xs.length - 2 * k := by simp; omega
      rw [hl2, List.getElem?_reverse (by simp; omega), List.getElem?_take, List.length_take]
      rw [if_pos (by omega)]
      congr 1; omega
    · rw [if_neg (by omega), List.getElem?_append_left (by simp; omega), List.getElem?_take, if_pos (by omega), List.getElem?_drop]
      congr 1; omega
theorem revTo_step {α : Type} (xs : List α) (d : α) (k : Nat) (h : 2 * k + 1 < xs.length) : swapL (revTo xs k) d k (xs.length - 1 - k) = revTo xs (k + 1) := by
  apply List.ext_getElem?
  intro q
  have hl := revTo_length xs k (by omega)
  have hl' := revTo_length xs (k + 1) (by omega)
  by_cases hq : q < xs.length
  · rw [revTo_get xs (k + 1) (by omega) q hq]
    unfold swapL
    have g1 := revTo_get xs k (by omega) k (by omega)
    have g2 := revTo_get xs k (by omega) (xs.length - 1 - k) (by omega)
    rw [if_neg (by omega)] at g1 g2
    have e1 : (revTo xs k).getD k d = xs.getD k d := by rw [List.getD_eq_getElem?_getD, g1, List.getD_eq_getElem?_getD]
    have e2 : (revTo xs k).getD (xs.length - 1 - k) d = xs.getD (xs.length - 1 - k) d := by rw [List.getD_eq_getElem?_getD, g2, List.getD_eq_getElem?_getD]
    rw [e1, e2, List.getElem?_set, List.length_set, hl]
    by_cases h1 : xs.length - 1 - k = q
    · rw [if_pos h1, if_pos (by omega), if_pos (.inr (by omega)), List.getD_eq_getElem?_getD, List.getElem?_eq_getElem (show k < xs.length by omega)]
      rw [show xs.length - 1 - q = k from by omega, List.getElem?_eq_getElem (show k < xs.length by omega)]; rfl
    · rw [if_neg h1, List.getElem?_set, hl]
      by_cases h2 : k = q
      · subst h2
        rw [if_pos rfl, if_pos (by omega), if_pos (.inl (by omega)), List.getD_eq_getElem?_getD, List.getElem?_eq_getElem (show xs.length - 1 - k < xs.length by omega)]; rfl
      · rw [if_neg h2, revTo_get xs k (by omega) q hq]
        by_cases h3 : q < k ∨ xs.length - k ≤ q
        · rw [if_pos h3, if_pos (by omega)]
        · rw [if_neg h3, if_neg (by omega)]
  · rw [List.getElem?_eq_none (by simp [swapL, hl]; omega), List.getElem?_eq_none (by omega)]
theorem revTo_done {α : Type} (xs : List α) (k : Nat) (h : 2 * k ≤ xs.length) (h2 : xs.length ≤ 2 * k + 1) : revTo xs k = xs.reverse := by
  apply List.ext_getElem?
  intro q
  by_cases hq : q < xs.length
  · rw [revTo_get xs k h q hq, List.getElem?_reverse (by simpa using hq)]
    by_cases h3 : q < k ∨ xs.length - k ≤ q
    · rw [if_pos h3]
    · rw [if_neg h3]; congr 1; omega
  · rw [List.getElem?_eq_none (by rw [revTo_length _ _ h]; omega), List.getElem?_eq_none (by simp; omega)]
set_option maxRecDepth 100000 in
set_option maxHeartbeats 1000000 in
theorem Reverse_bytes (g n cap : Nat) (e : TypeId) (L : List UInt8) (w : World) (hn : L.length = n) (hn2 : n ≤ 4611686018427387904) (h : RowAt w g 0 e (bvals L)) :
    Calls Tryz.prog 116 #[.slice (some ⟨g, 0, none⟩) n cap] w fun e' w' => e' = .returned (.tuple #[]) ∧ RowAt w' g 0 e (bvals L.reverse) ∧ w.grownBy w' (some g) := by
  have HN := Lib.hid hn; clear hn
  go_enter Tryz.func116, Tryz.ntmps116
  go_wp2_with fail
  go_loopw [2, 3] (fun i j wr => ∃ k : Nat, 2 * k ≤ n ∧ i = .int .i64 k ∧ j = .int .i64 ((n : Int) - 1 - (k : Int)) ∧ RowAt wr g 0 e (bvals (revTo L k)) ∧ w.grownBy wr (some g)) (fun i _ _ => n - (intOf i).toNat)
  case atStart => exact ⟨0, by omega, rfl, by go_num, by rw [revTo_zero]; exact h, ⟨rfl, rfl, rfl, Nat.le_refl _, fun _ _ _ => rfl⟩⟩
  case round =>
    obtain ⟨k, hk, rfl, rfl, hrow, hg⟩ := hrel
    by_cases hlt : 2 * k + 1 < n
    · have hst := revTo_step L 0 k (by rw [HN.out]; exact hlt)
      have hrl := revTo_length L k (by rw [HN.out]; exact hk)
      rw [HN.out] at hst hrl
      obtain ⟨m, hm⟩ : ∃ m, m = n - 1 - k := ⟨_, rfl⟩
      have hj : (n : Int) - 1 - (k : Int) = (m : Int) := by omega
      rw [← hm] at hst
      rw [hj]
      have hkm : k < m := by omega
      have hmn : m < n := by omega
      have hkn : k < n := by omega
      have hkmI : (k : Int) < (m : Int) := by omega
      have hmnI : (m : Int) < (n : Int) := by omega
      have hknI : (k : Int) < (n : Int) := by omega
      have hk2 : m + k + 1 = n := by omega
      have HK2 := Lib.hid hk2; clear hk2
      clear hm hj hlt
      generalize hM : revTo L k = M at *
      have hc1 := hrow.byte0 k (by omega)
      have hc2 := hrow.byte0 m (by omega)
      have hf1 := hrow.frozen0 k (by rw [bvals_length]; omega)
      have hf2 := hrow.frozen0 m (by rw [bvals_length]; omega)
      have HRL := Lib.hid hrl; clear hrl
      have HM := Lib.hid hM; clear hM
      unfold swapL at hst
      generalize hx : M.getD k 0 = x at *
      generalize hy : M.getD m 0 = y at *
      have HST := Lib.hid hst; clear hst
      have HX := Lib.hid hx; clear hx
      have HY := Lib.hid hy; clear hy
      have hne : (k = m) = False := by simp; omega
      have hne2 : (m = k) = False := by simp; omega
      go_wp2_with fail
      go_region
      all_goals go_wp2_with fail
      go_roundw
      case rel =>
        have h1 := hrow.set0 k (by rw [bvals_length, HRL.out]; exact hkn) (.int .u8 ((y.toNat : Nat) : Int))
        rw [bvals_setI] at h1
        have h2 := h1.set0 m (by rw [bvals_length, List.length_set, HRL.out]; exact hmn) (.int .u8 ((x.toNat : Nat) : Int))
        rw [bvals_setI, HST.out] at h2
        exact ⟨k + 1, by have := HK2.out; omega, by go_num, by have := HK2.out; go_num, h2.drew, grown_drew (grown_set (grown_set hg rfl _) rfl _)⟩
      case measure => simp [intOf]; omega
    · have hd : decide ((k : Int) < (n : Int) - 1 - (k : Int)) = false := by rw [decide_eq_false_iff_not]; omega
      go_wp2_with fail
      go_end0
      refine ⟨rfl, ?_, hg⟩
      rw [revTo_done L k (by rw [HN.out]; exact hk) (by rw [HN.out]; omega)] at hrow
      exact hrow
end Go.Proofs.YtlpkebngehmimaaGreatDoor
end
section
/- What the program's table says of some element types. -/
namespace Go.Proofs.YtlpkebngehmimaaGreatDoor
theorem infoU8 : (Tryz.prog.info? 5).map (fun i => (i.zero, i.size, i.bytes)) = some (some (.int .u8 0), 1, 1) := by kernel_rfl
end Go.Proofs.YtlpkebngehmimaaGreatDoor
end
