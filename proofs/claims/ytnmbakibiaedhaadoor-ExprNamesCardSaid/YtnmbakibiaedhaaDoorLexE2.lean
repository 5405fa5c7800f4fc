/- Tokens in a row; slices.Equal of tokens; the fact of tokens (cutUp). -/
import Derived.Test.YtnmbakibiaedhaaDoorLexD
import Derived.Laws.StructEq
namespace Go.Proofs.YtnmbakibiaedhaaDoor
open Go.RowKit
set_option linter.unusedVariables false
set_option linter.unusedSimpArgs false
theorem RowAt.new2 (w : World) (g : Nat) (hg : g = w.heap.size) (e : TypeId) (xs : List Value) : RowAt (w.alloc (.cells xs.toArray e)) g 0 e xs := by
  subst hg
  have := RowAt.new w e xs.toArray
  rwa [List.toList_toArray] at this
theorem tokCells_len (T : List Tok) : (tokCells T).length = T.length * 2 := by
  induction T with
  | nil => rfl
  | cons t T ih => simp only [tokCells, List.flatMap_cons, List.length_append, List.length_cons] at ih ⊢; rw [ih]; simp [tokCell]; omega
theorem tokCells_get : ∀ (T : List Tok) (k : Nat), k < T.length → (tokCells T)[k * 2]? = some (.string (bstr (T.getD k ([], 0)).1)) ∧ (tokCells T)[k * 2 + 1]? = some (.int .i64 ((T.getD k ([], 0)).2 : Nat)) := by
  intro T
  induction T with
  | nil => intro k h; simp at h
  | cons t T ih =>
    intro k h
    rcases k with _ | k
    · exact ⟨rfl, rfl⟩
    · have := ih k (by simpa using h)
      rw [show (k + 1) * 2 = k * 2 + 2 from by omega]
      exact this
/-- a slice of tokens that is read -/
def ReadsTok (w : World) (a : Option Addr) (T : List Tok) : Prop := ∀ k, k < T.length → ∃ g, a = some ⟨g, 0, none⟩ ∧ g < w.heap.size ∧ w.cell? ⟨g, k * 2, none⟩ = some (.string (bstr (T.getD k ([], 0)).1)) ∧ w.cell? ⟨g, k * 2 + 1, none⟩ = some (.int .i64 ((T.getD k ([], 0)).2 : Nat))
theorem rowTok {w : World} {g : Nat} {T : List Tok} (h : RowAt w g 0 41 (tokCells T)) : ReadsTok w (some ⟨g, 0, none⟩) T := by
  intro k hk
  obtain ⟨h1, h2⟩ := tokCells_get T k hk
  refine ⟨g, rfl, h.lt, ?_, ?_⟩
  · have := h.cell? (k * 2) (by rw [tokCells_len]; omega)
    rw [Nat.zero_add] at this
    rw [this, h1]
  · have := h.cell? (k * 2 + 1) (by rw [tokCells_len]; omega)
    rw [Nat.zero_add] at this
    rw [this, h2]
theorem ownTok {w : World} {B n cap : Nat} {a : Option Addr} {T : List Tok} (h : Owns w B 41 2 a n cap (tokCells T)) : ReadsTok w a T := by
  cases a with
  | none =>
    intro k hk
    have := h.of_none.2.2
    have h2 := tokCells_len T
    rw [this] at h2
    simp at h2
    omega
  | some x =>
    have hr := h.row
    rw [hr.1]
    exact rowTok hr.2.2.2.2
theorem ReadsTok.below {w w' : World} {a : Option Addr} {T : List Tok} (h : ReadsTok w a T) {B : Nat} (hb : Below B w w') (hB : w.heap.size ≤ B) : ReadsTok w' a T := by
  intro k hk
  obtain ⟨g, h1, h2, h3, h4⟩ := h k hk
  have hg : g < B := Nat.lt_of_lt_of_le h2 hB
  exact ⟨g, h1, Nat.lt_of_lt_of_le h2 hb.size, (hb.cell (p := ⟨g, k * 2, none⟩) hg).trans h3, (hb.cell (p := ⟨g, k * 2 + 1, none⟩) hg).trans h4⟩
theorem run_tokNe (x : ByteArray) (p : Int) (w : World) : (binOp .neq 41 (.agg #[.string x, .int .i64 p]) (.agg #[.string x, .int .i64 p])).run Tryd.prog w = .ok (.bool false) w := by
  have hS : Tryd.prog.underlying 41 = some (.struct (Tryd.prog.fieldsOf 41)) := by kernel_rfl
  have hp : Tryd.prog.stoodInHeld 41 = false := by kernel_rfl
  have a3 := Tryd.isAgg3
  have z3 := Tryd.sizeOf3
  have u3 := Tryd.underlying3
  have a9 := Tryd.isAgg9
  have z9 := Tryd.sizeOf9
  have u9 := Tryd.underlying9
  rw [run_neq_struct, show (10000 : Nat) = 9999 + 1 from rfl, run_equalIn_agg w 9999 41 _ _ hS hp]
  simp only [Program.fieldsOf, Tryd.underlying41]
  go_simp
set_option maxRecDepth 100000 in
theorem tokEqual_yes (a b : Option Addr) (n c d : Nat) (T : List Tok) (w : World) (hT : T.length = n) (hn : n ≤ 4611686018427387904) (ha : ReadsTok w a T) (hb : ReadsTok w b T) :
    Calls Tryd.prog 46 #[.slice a n c, .slice b n d] w fun e w' => e = .returned (.bool true) ∧ ∃ k, w' = w.drewN k := by
  have HT := Lib.hid hT; clear hT
  have HA := Lib.hid ha; clear ha
  have HB := Lib.hid hb; clear hb
  have hnn : ((n : Int) != (n : Int)) = false := by simp
  go_enter Tryd.func46, Tryd.ntmps46
  go_wp2_with fail
  go_loopw [13] (fun i wr => ∃ k : Nat, k ≤ n ∧ i = .int .i64 k ∧ ∃ q, Hid (wr = w.drewN q)) (fun i _ => n - (intOf i).toNat)
  case atStart => exact ⟨0, by omega, rfl, 0, rfl⟩
  case round =>
    obtain ⟨k, hk, rfl, q, hw⟩ := hrel
    obtain rfl := hw.out
    by_cases hlt : k < n
    · obtain ⟨g, rfl, hg, hc1, hc2⟩ := HA.out k (by rw [HT.out]; exact hlt)
      obtain ⟨g', rfl, hg', hc3, hc4⟩ := HB.out k (by rw [HT.out]; exact hlt)
      have hki : (k : Int) < (n : Int) := by omega
      have hrun := run_tokNe (bstr (T.getD k ([], 0)).1) ((T.getD k ([], 0)).2 : Nat)
      generalize bstr (T.getD k ([], 0)).1 = x at *
      generalize (T.getD k ([], 0)).2 = p at *
      have hd1 : (w.drewN q).cell? ⟨g, k * 2, none⟩ = some (.string x) := hc1
      have hd2 : (w.drewN q).cell? ⟨g, k * 2 + 1, none⟩ = some (.int .i64 (p : Nat)) := hc2
      have hd3 : (w.drewN q).cell? ⟨g', k * 2, none⟩ = some (.string x) := hc3
      have hd4 : (w.drewN q).cell? ⟨g', k * 2 + 1, none⟩ = some (.int .i64 (p : Nat)) := hc4
      clear hc1 hc2 hc3 hc4
      obtain ⟨wq, hwq⟩ : ∃ wq, wq = w.drewN q := ⟨_, rfl⟩
      rw [← hwq] at hd1 hd2 hd3 hd4
      rw [← hwq]
      have HWQ := Lib.hid hwq; clear hwq
      go_wp2_with fail
      go_quiet (fail)
      have HWN : Hid (wq.drewN nq = w.drewN (q + nq)) := Lib.hid (by rw [HWQ.out]; exact World.drewN_drewN _ _ _)
      clear hd1 hd2 hd3 hd4
      generalize wq.drewN nq = w4 at *
      go_wp2_with fail
      go_roundw
      case rel => exact ⟨k + 1, by omega, by go_num, _, HWN⟩
      case measure => simp [intOf]; omega
    · obtain rfl : k = n := by omega
      have hd : decide ((k : Int) < (k : Int)) = false := by simp
      go_wp2_with fail
      go_ret
      exact ⟨rfl, q, rfl⟩
theorem Name_x1 (w : World) : Calls Tryd.prog 17 #[.string (bstr [120, 49])] w fun e w' => e = .returned (.bool true) ∧ w = w' := by
  have hl := fun w => letter_any 120 (by decide) w
  rw [show Lex.letter 120 = true from by decide] at hl
  have HL := Lib.hid hl; clear hl
  go_enter Tryd.func17, Tryd.ntmps17
  go_wp2_with fail
  refine (HL.out _).mono ?_
  rintro e w1 ⟨rfl, rfl⟩
  go_wp2_with fail
  go_ret
  exact ⟨rfl, rfl⟩
end Go.Proofs.YtnmbakibiaedhaaDoor
