/- Contracts of expr.hold and expr.Text. -/
import Derived.Test.YtnmbakibiaedhaaDoorReadF
import Derived.Deep.RegionHeld3
namespace Go.Proofs.YtnmbakibiaedhaaDoor
open Go.RowKit
set_option linter.unusedVariables false
set_option linter.unusedSimpArgs false
open Rd
open Ex (X levels)
theorem level_index (k : Nat) (hk : k < 3) (a b c : Value) (w : World) : (Instr.index 139 (.agg #[a, b, c]) (.int .i64 (k : Nat))).run Tryd.prog w = .ok (match k with | 0 => a | 1 => b | _ => c) w := by
  rcases (by omega : k = 0 ∨ k = 1 ∨ k = 2) with rfl | rfl | rfl
  · kernel_rfl
  · kernel_rfl
  · kernel_rfl
/-- the table, as it is loaded -/
structure Tab (w : World) (g : Nat → Addr) (c : Nat → Nat) : Prop where
  cell : ∀ k, k < 3 → w.cell? ⟨0, k, none⟩ = some (.slice (some (g k)) (levels k).length (c k))
  row : ∀ k, k < 3 → ∀ j, j < (levels k).length → w.cell? ((g k).add j) = some (.string (bstr ((levels k).getD j [])))
theorem tab_of {w : World} {rb : Nat} (h : LevelsAt w rb) : ∃ g c, Tab w g c := by
  obtain ⟨g0, c0, h0, _, r0⟩ := h.2 0 (by omega)
  obtain ⟨g1, c1, h1, _, r1⟩ := h.2 1 (by omega)
  obtain ⟨g2, c2, h2, _, r2⟩ := h.2 2 (by omega)
  refine ⟨fun k => match k with | 0 => g0 | 1 => g1 | _ => g2, fun k => match k with | 0 => c0 | 1 => c1 | _ => c2, fun k hk => ?_, fun k hk => ?_⟩
  · rcases (by omega : k = 0 ∨ k = 1 ∨ k = 2) with rfl | rfl | rfl
    · exact h0
    · exact h1
    · exact h2
  · rcases (by omega : k = 0 ∨ k = 1 ∨ k = 2) with rfl | rfl | rfl
    · exact r0
    · exact r1
    · exact r2
def sliceK (g : Nat → Addr) (c : Nat → Nat) (k : Nat) : Value := .slice (some (g k)) (levels k).length (c k)
theorem tab_cells {w : World} {g : Nat → Addr} {c : Nat → Nat} (h : Tab w g c) : ∀ j v, (#[sliceK g c 0, sliceK g c 1, sliceK g c 2] : Array Value).toList[j]? = some v → w.cell? ⟨0, j, none⟩ = some v := by
  intro j v hv
  have hj : j < 3 := by
    rcases Nat.lt_or_ge j 3 with h | h
    · exact h
    · rw [List.getElem?_eq_none (by simpa using h)] at hv; cases hv
  rcases (by omega : j = 0 ∨ j = 1 ∨ j = 2) with rfl | rfl | rfl
  · cases hv; exact h.cell 0 (by omega)
  · cases hv; exact h.cell 1 (by omega)
  · cases hv; exact h.cell 2 (by omega)
theorem sliceK_at (g : Nat → Addr) (c : Nat → Nat) (k : Nat) (hk : k < 3) (w : World) : (Instr.index 139 (.agg #[sliceK g c 0, sliceK g c 1, sliceK g c 2]) (.int .i64 (k : Nat))).run Tryd.prog w = .ok (.slice (some (g k)) (levels k).length (c k)) w := by
  rw [level_index k hk]
  rcases (by omega : k = 0 ∨ k = 1 ∨ k = 2) with rfl | rfl | rfl <;> rfl
theorem opLevel_none (op : List UInt8) (h : ∀ k, k < 3 → op ∉ levels k) : Ex.opLevel op = 3 := by
  unfold Ex.opLevel
  rw [if_neg (h 0 (by omega)), if_neg (h 1 (by omega)), if_neg (h 2 (by omega))]
set_option maxRecDepth 100000 in
set_option maxHeartbeats 1000000 in
theorem hold_any (b : Nat) (code : Int) (op : List UInt8) (g : Nat → Addr) (c : Nat → Nat) (w : World) (hT : Tab w g c) (h0 : w.cell? ⟨b, 0, none⟩ = some (.int .i64 code)) (h4 : w.cell? ⟨b, 4, none⟩ = some (.string (bstr op))) :
    Calls Tryd.prog 42 #[.pointer (some ⟨b, 0, none⟩)] w fun e w' => e = .returned (.int .i64 ((if code = 3 then Ex.opLevel op else 3 : Nat) : Int)) ∧ w' = w := by
  obtain ⟨R, hR⟩ : ∃ R, R = (if code = 3 then Ex.opLevel op else 3) := ⟨_, rfl⟩
  have HR := Lib.hid hR
  rw [← hR]
  have HT := Lib.hid hT
  obtain ⟨is3, h3⟩ : ∃ is3 : Bool, is3 = (code == 3) := ⟨_, rfl⟩
  have H3 := Lib.hid h3
  have e3 : (code == 3) = is3 := h3.symm
  clear hR hT h3
  go_enter Tryd.func42, Tryd.ntmps42
  go_wp2_with (with_reducible refine wpList_load_cells rfl 139 _ rfl 0 rfl #[sliceK g c 0, sliceK g c 1, sliceK g c 2] _ (tab_cells HT.out) Tryd.underlying139 rfl rfl ?_)
  go_loop [8] (fun v8 => ∃ k : Nat, v8 = .int .i64 k ∧ k ≤ 3 ∧ Hid (is3 = true → ∀ i, i < k → op ∉ levels i)) (fun v8 => 3 - (intOf v8).toNat)
  case atStart => exact ⟨0, rfl, by omega, Lib.hid (fun _ i hi => by omega)⟩
  case round =>
    obtain ⟨k, rfl, hk, HK⟩ := hrel
    by_cases hlt : k < 3
    · have d1 : decide ((k : Int) < 3) = true := decide_eq_true (by omega)
      have d1n : decide (k < 3) = true := decide_eq_true hlt
      have hidx := sliceK_at g c k hlt
      have hrow := HT.out.row k hlt
      obtain ⟨n, hn⟩ : ∃ n, n = (levels k).length := ⟨_, rfl⟩
      have hn4 : n ≤ 4 := by rw [hn]; exact levels_small k
      rw [← hn] at hidx hrow
      have HN := Lib.hid hn; have HLT := Lib.hid hlt; have HROW := Lib.hid hrow
      clear hn hlt hrow
      go_wp2_with fail
      go_loop [14] (fun v14 => ∃ j : Nat, v14 = .int .i64 j ∧ j ≤ n ∧ Hid (is3 = true → ∀ i, i < j → (levels k).getD i [] ≠ op)) (fun v14 => n - (intOf v14).toNat)
      case atStart => exact ⟨0, rfl, by omega, Lib.hid (fun _ i hi => by omega)⟩
      case round =>
        obtain ⟨j, rfl, hj, HJ⟩ := hrel
        by_cases hjt : j < n
        · have d2 : decide ((j : Int) < (n : Int)) = true := decide_eq_true (by omega)
          have d2n : decide (j < n) = true := decide_eq_true hjt
          have hji : (j : Int) < (n : Int) := by omega
          have cj := HROW.out j hjt
          obtain ⟨sj, hsj⟩ : ∃ sj, sj = (levels k).getD j [] := ⟨_, rfl⟩
          have hsm := (levels_ne k j (by rw [← HN.out]; exact hjt)).2
          rw [← hsj] at cj hsm
          have HSJ := Lib.hid hsj; have HSM := Lib.hid hsm; have HJT := Lib.hid hjt
          clear hsj hsm hjt
          cases is3 with
          | true =>
            by_cases hh : op = sj
            · subst hh
              have hRk : R = k := by
                rw [HR.out, if_pos (by have := H3.out; exact beq_iff_eq.1 this.symm)]
                exact (Ex.level_mark k _ HSM.out).2.1
              have HRK := Lib.hid hRk
              clear hRk
              go_wp2_with fail
              go_ret
              exact ⟨by rw [HRK.out]; rfl, rfl⟩
            · have hne : (op == sj) = false := by rw [beq_eq_false_iff_ne]; exact hh
              have HNE : Hid (true = true → ∀ i, i < j + 1 → (levels k).getD i [] ≠ op) := Lib.hid fun _ i hi => by
                by_cases e : i = j
                · rw [e, ← HSJ.out]; exact fun e => hh e.symm
                · exact HJ.out rfl i (by omega)
              clear hh
              go_wp2_with fail
              go_round
              case rel => exact ⟨j + 1, by go_num, by have := HJT.out; omega, Lib.hid (fun _ => HNE.out rfl)⟩
              case measure => simp [intOf]; have := HJT.out; omega
          | false =>
            go_wp2_with fail
            go_round
            case rel => exact ⟨j + 1, by go_num, by have := HJT.out; omega, Lib.hid (by intro h; cases h)⟩
            case measure => simp [intOf]; have := HJT.out; omega
        · obtain rfl : j = n := by omega
          have d2 : decide ((j : Int) < (j : Int)) = false := by simp
          go_wp2_with fail
          go_round
          case rel =>
            refine ⟨k + 1, by go_num, by have := HLT.out; omega, Lib.hid (fun h i hi => ?_)⟩
            by_cases e : i = k
            · rw [e]; exact not_levels (fun a ha => HJ.out h a (by rw [HN.out]; exact ha))
            · exact HK.out h i (by omega)
          case measure => simp [intOf]; have := HLT.out; omega
    · obtain rfl : k = 3 := by omega
      have hR3 : R = 3 := by
        rw [HR.out]
        split
        · rename_i h
          exact opLevel_none op (fun i hi => HK.out (by rw [H3.out]; exact beq_iff_eq.2 h) i hi)
        · rfl
      have HR3 := Lib.hid hR3
      clear hR3
      go_wp2_with fail
      go_ret
      exact ⟨by rw [HR3.out]; rfl, rfl⟩
/-- how strongly an expression in memory holds together -/
theorem hold_x {w : World} {rb b : Nat} {x : X} (hl : LevelsAt w rb) (h : IsX w rb b x) : Calls Tryd.prog 42 #[.pointer (some ⟨b, 0, none⟩)] w fun e w' => e = .returned (.int .i64 ((Ex.hold x : Nat) : Int)) ∧ w' = w := by
  obtain ⟨g, c, hT⟩ := tab_of hl
  cases x with
  | num a n =>
    have c0 := h.2.cell0 0 (by simp)
    have c4 := h.2.cell0 4 (by simp)
    exact hold_any b 1 [] g c w hT c0 c4
  | name a s =>
    have c0 := h.2.cell0 0 (by simp)
    have c4 := h.2.cell0 4 (by simp)
    exact hold_any b 2 [] g c w hT c0 c4
  | bin a op l r =>
    obtain ⟨bl, br, h1, h2, _⟩ := h
    have c0 := h2.cell0 0 (by simp)
    have c4 := h2.cell0 4 (by simp)
    exact hold_any b 3 op g c w hT c0 c4
/-- Text of an expression; a part of it -/
def TextC (x : X) : Prop := ∀ (w : World) (rb b : Nat), LevelsAt w rb → rb ≤ w.heap.size → IsX w rb b x → (Ex.pr Num.dec x).length ≤ 1000000 →
  Calls Tryd.prog 13 #[.pointer (some ⟨b, 0, none⟩)] w fun e w' => e = .returned (.string (bstr (Ex.pr Num.dec x))) ∧ Below w.heap.size w w'
def partOf (x : X) (least : Nat) : List UInt8 := if Ex.hold x < least then 40 :: (Ex.pr Num.dec x ++ [41]) else Ex.pr Num.dec x
set_option maxRecDepth 100000 in
set_option maxHeartbeats 1000000 in
theorem part_any (x : X) (least : Nat) (w : World) (rb b : Nat) (h : TextC x) (hl : LevelsAt w rb) (hrb : rb ≤ w.heap.size) (hx : IsX w rb b x) (hp : (Ex.pr Num.dec x).length ≤ 1000000) (h4 : least ≤ 4) :
    Calls Tryd.prog 43 #[.pointer (some ⟨b, 0, none⟩), .int .i64 (least : Nat)] w fun e w' => e = .returned (.string (bstr (partOf x least))) ∧ Below w.heap.size w w' := by
  have HH := Lib.hid (hold_x hl hx)
  have HT := Lib.hid (h w rb b hl hrb hx hp)
  unfold partOf
  generalize Ex.hold x = k at *
  generalize Ex.pr Num.dec x = s at *
  clear h hl hrb hx
  have z1 : ¬ 9223372036854775807 < 1 + s.length := by omega
  have z2 : ¬ 9223372036854775807 < 1 + s.length + 1 := by omega
  have z3 : ¬ 9223372036854775807 < s.length + 1 + 1 := by omega
  have z4 : ¬ 9223372036854775807 < s.length + 1 := by omega
  by_cases hk : k < least
  · have d1 : decide ((k : Int) < (least : Int)) = true := decide_eq_true (by omega)
    have d1n : decide (k < least) = true := decide_eq_true hk
    rw [if_pos hk]
    clear hk
    go_enter Tryd.func43, Tryd.ntmps43
    go_wp2_with fail
    refine HH.out.mono ?_
    rintro e w1 ⟨rfl, rfl⟩
    go_wp2_with fail
    refine HT.out.mono ?_
    rintro e w2 ⟨rfl, hb⟩
    go_wp2_with fail
    go_ret
    exact ⟨rfl, hb⟩
  · have d1 : decide ((k : Int) < (least : Int)) = false := decide_eq_false (by omega)
    have d1n : decide (k < least) = false := decide_eq_false hk
    rw [if_neg hk]
    clear hk
    go_enter Tryd.func43, Tryd.ntmps43
    go_wp2_with fail
    refine HH.out.mono ?_
    rintro e w1 ⟨rfl, rfl⟩
    go_wp2_with fail
    refine HT.out.mono ?_
    rintro e w2 ⟨rfl, hb⟩
    go_wp2_with fail
    go_ret
    exact ⟨rfl, hb⟩
end Go.Proofs.YtnmbakibiaedhaaDoor
