/- Contracts of package regs: small, Name, Get. -/
import Derived.Test.YtmmkbjinkdgdbaaChecked
import Derived.Test.YtmmkbjinkdgdbaaMapS
import Derived.Test.YtmmkbjinkdgdbaaOwn
namespace Go.Proofs.Ytmmkbjinkdgdbaa
open Go.RowKit Go.Maps
set_option linter.unusedVariables false
set_option linter.unusedSimpArgs false
namespace Regs
def great (c : Nat) : Bool := decide (65 ≤ c) && decide (c ≤ 90)
def small (c : Nat) : Nat := if great c then c + 32 else c
def name (c : Nat) : Bool := (decide (97 ≤ small c) && decide (small c ≤ 122)) || decide (small c = 34)
theorem small_lt (c : Nat) (h : c < 256) : small c < 256 := by
  unfold small great
  by_cases h1 : 65 ≤ c ∧ c ≤ 90
  · rw [if_pos (by simp [h1])]; omega
  · rw [if_neg (by simp; omega)]; exact h
end Regs
set_option maxRecDepth 100000 in
theorem small_any (c : Nat) (w : World) (hc : c < 256) :
    Calls Try.prog 57 #[.int .u8 (c : Int)] w fun e w' => e = .returned (.tuple #[.int .u8 (Regs.small c : Nat), .bool (Regs.great c)]) ∧ w = w' := by
  unfold Regs.small
  by_cases h : 65 ≤ c ∧ c ≤ 90
  · have hg : Regs.great c = true := by unfold Regs.great; simp [h]
    rw [hg, if_pos rfl]
    have a1 : 65 ≤ c := h.1
    have a2 : c ≤ 90 := h.2
    clear h hg
    go_enter Try.func57, Try.ntmps57
    go_wp2_with fail
    go_ret2
    refine ⟨?_, rfl⟩
    exact ret_tup1 (val_int (by omega))
  · have hg : Regs.great c = false := by unfold Regs.great; simp only [Bool.and_eq_false_iff, decide_eq_false_iff_not]; omega
    rw [hg, if_neg (by simp)]
    clear hg
    rcases (by omega : c < 65 ∨ 90 < c) with h1 | h1
    all_goals
      clear h
      go_enter Try.func57, Try.ntmps57
      go_wp2_with fail
      all_goals first | (exfalso; omega) | (go_ret2; exact ⟨rfl, rfl⟩)
set_option maxRecDepth 100000 in
theorem Name_any (c : Nat) (w : World) (hc : c < 256) :
    Calls Try.prog 22 #[.int .u8 (c : Int)] w fun e w' => e = .returned (.bool (Regs.name c)) ∧ w = w' := by
  have hs := Regs.small_lt c hc
  have h := fun w => small_any c w hc
  have hn : Regs.name c = ((decide (97 ≤ Regs.small c) && decide (Regs.small c ≤ 122)) || decide (Regs.small c = 34)) := rfl
  generalize Regs.small c = s at *
  generalize Regs.great c = gr at *
  rw [hn]
  clear hn
  have H := Lib.hid h; clear h
  rcases (by omega : s < 97 ∨ (97 ≤ s ∧ s ≤ 122) ∨ 122 < s) with h1 | h1 | h1
  · by_cases h2 : s = 34
    · subst h2
      go_enter Try.func22, Try.ntmps22
      go_wp2_with fail
      refine (H.out _).mono ?_
      rintro e w1 ⟨rfl, rfl⟩
      go_wp2_with fail
      go_ret
      exact ⟨rfl, rfl⟩
    · have h3 : ((s : Int) == 34) = false := by rw [beq_eq_false_iff_ne]; omega
      have hd : ((decide (97 ≤ s) && decide (s ≤ 122)) || decide (s = 34)) = false := by simp; omega
      rw [hd]
      clear hd h2
      go_enter Try.func22, Try.ntmps22
      go_wp2_with fail
      refine (H.out _).mono ?_
      rintro e w1 ⟨rfl, rfl⟩
      go_wp2_with fail
      go_ret
      exact ⟨rfl, rfl⟩
  · obtain ⟨a1, a2⟩ := h1
    have hd : ((decide (97 ≤ s) && decide (s ≤ 122)) || decide (s = 34)) = true := by simp; omega
    rw [hd]
    clear hd
    go_enter Try.func22, Try.ntmps22
    go_wp2_with fail
    refine (H.out _).mono ?_
    rintro e w1 ⟨rfl, rfl⟩
    go_wp2_with fail
    go_ret
    exact ⟨rfl, rfl⟩
  · have h3 : ((s : Int) == 34) = false := by rw [beq_eq_false_iff_ne]; omega
    have h4 : decide ((s : Int) ≤ 122) = false := by rw [decide_eq_false_iff_not]; omega
    have hd : ((decide (97 ≤ s) && decide (s ≤ 122)) || decide (s = 34)) = false := by simp; omega
    rw [hd]
    clear hd
    go_enter Try.func22, Try.ntmps22
    go_wp2_with fail
    refine (H.out _).mono ?_
    rintro e w1 ⟨rfl, rfl⟩
    go_wp2_with fail
    all_goals first | (exfalso; omega) | (go_ret; exact ⟨rfl, rfl⟩)
/-- block g is a set of registers: F: what is kept by a letter; cut: the nine -/
def RegsAt (w : World) (B g n : Nat) (F : Nat → List UInt8) (cut : List ByteArray) : Prop :=
  cut.length = 9 ∧ B ≤ g ∧ ∃ mv, Whole w g 30 (mv :: cut.map Value.string) ∧ ((mv = .map none ∧ F = fun _ => []) ∨ ∃ b, mv = .map (some b) ∧ b ≠ g ∧ B ≤ b ∧ MapS Try.prog 5 9 w b n F)
theorem zeroStr (w : World) : (zeroValue 9).run Try.prog w = .ok (.string ⟨#[]⟩) w := by kernel_rfl
theorem look_none (c : Nat) (hc : c < 256) (w : World) : (Instr.lookup 27 (.map none) (.int .u8 (c : Int)) false).run Try.prog w = .ok (.string ⟨#[]⟩) w := by
  have := Maps.look_nil (P := Try.prog) (w := w) false (int_keyed Try.underlying5) Try.underlying27 (zeroStr w) (keyOf_int_mk Try.underlying5 (u8_wf c hc))
  exact this
set_option maxRecDepth 100000 in
theorem Get_cut (B g n : Nat) (F : Nat → List UInt8) (cut : List ByteArray) (c : Nat) (w : World) (h : RegsAt w B g n F cut) (h1 : 49 ≤ c) (h2 : c ≤ 57) :
    Calls Try.prog 19 #[.pointer (some ⟨g, 0, none⟩), .int .u8 (c : Int)] w fun e w' => e = .returned (.tuple #[.string (cut.getD (c - 49) ByteArray.empty), .nilIface]) ∧ w = w' := by
  obtain ⟨hl, hB, mv, hW, -⟩ := h
  have hr := hW.row
  have hcell := hr.cell0 (c - 49 + 1) (by simp; omega)
  have hx : (mv :: cut.map Value.string)[c - 49 + 1]'(by simp; omega) = .string (cut.getD (c - 49) ByteArray.empty) := by
    rw [List.getElem_cons_succ, List.getElem_map, List.getD_eq_getElem?_getD, List.getElem?_eq_getElem (by omega)]; rfl
  rw [hx] at hcell
  obtain ⟨k, hk⟩ : ∃ k, k = c - 49 := ⟨_, rfl⟩
  obtain rfl : c = k + 49 := by omega
  rw [Nat.add_sub_cancel] at *
  have hk9 : k < 9 := by omega
  have hw : IntKind.u8.wrap ((k + 49 : Nat) - 49 : Int) = (k : Int) := by rw [IntKind.wrap_u8]; omega
  rw [Nat.add_comm k 1] at hcell
  generalize cut.getD k ByteArray.empty = sk at *
  clear hx hk hr hW hB
  go_enter Try.func19, Try.ntmps19
  go_wp2_with fail
  go_ret2
  exact ⟨rfl, rfl⟩
set_option maxRecDepth 100000 in
theorem Get_name (B g n : Nat) (F : Nat → List UInt8) (cut : List ByteArray) (c : Nat) (w : World) (h : RegsAt w B g n F cut) (hc : c < 256) (hn : Regs.name c = true) (h1 : c < 49 ∨ 57 < c) :
    Calls Try.prog 19 #[.pointer (some ⟨g, 0, none⟩), .int .u8 (c : Int)] w fun e w' => e = .returned (.tuple #[.string (bstr (F (Regs.small c))), .nilIface]) ∧ w = w' := by
  obtain ⟨hl, hB, mv, hW, hmv⟩ := h
  have hr := hW.row
  have hcell := hr.cell0 0 (by simp)
  simp only [List.getElem_cons_zero] at hcell
  have hN := fun w => Name_any c w hc
  have hS := fun w => small_any c w hc
  have hs := Regs.small_lt c hc
  rw [hn] at hN
  generalize Regs.great c = gr at *
  generalize Regs.small c = s at *
  have HN := Lib.hid hN; clear hN
  have HS := Lib.hid hS; clear hS
  have hlook : (Instr.lookup 27 mv (.int .u8 (s : Int)) false).run Try.prog w = .ok (.string (bstr (F s))) w := by
    rcases hmv with ⟨rfl, rfl⟩ | ⟨b, rfl, _, _, hM⟩
    · exact look_none s hs w
    · exact hM.look Try.underlying27 Try.underlying5 Try.underlying9 (zeroStr w) s hs
  clear hmv hr hW hB hl hn
  rcases h1 with h1 | h1
  all_goals
    go_enter Try.func19, Try.ntmps19
    go_wp2_with fail
    refine (HN.out _).mono ?_
    rintro e w1 ⟨rfl, rfl⟩
    go_wp2_with fail
    refine (HS.out _).mono ?_
    rintro e w1 ⟨rfl, rfl⟩
    go_wp2_with fail
    go_ret2
    exact ⟨rfl, rfl⟩
end Go.Proofs.Ytmmkbjinkdgdbaa
