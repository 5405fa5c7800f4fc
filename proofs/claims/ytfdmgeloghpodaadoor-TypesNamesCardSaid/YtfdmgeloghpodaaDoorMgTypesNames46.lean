/- The fact cutUp. -/
import Derived.Laws.StructEq
import Derived.Test.YtfdmgeloghpodaaDoorMgTypesNames45
import Derived.Test.YtfdmgeloghpodaaDoorMgTypesNames4
section
/- The law TmplAgain. -/
namespace Go.Proofs.YtfdmgeloghpodaaDoor
open Go.RowKit
set_option linter.unusedVariables false
set_option linter.unusedSimpArgs false
open Rd
/-- what is written of what was read, is read so -/
theorem read_again {s : List UInt8} {tys : List Tm.Ty} (hs : s.length ≤ 3000) (h : ReadT s tys) (hl : (Tm.prTs tys).length ≤ 3000) : ∃ l, Tm.SameTs tys l ∧ ReadT (Tm.prTs tys) l := by
  obtain ⟨T, h1, h2⟩ := h
  obtain ⟨_, hw, _⟩ := toks_lex hs h1
  have hf := h2.fine hw
  obtain ⟨T', h3, h4⟩ := toks_of (Tm.texts_prTs tys hf)
  obtain ⟨l, h5, h6⟩ := h2.back (E' := (Tm.prTs tys).length) hf T' h4
  exact ⟨l, h5, T', h3, h6⟩
set_option maxRecDepth 100000 in
set_option maxHeartbeats 8000000 in
theorem TmplAgain_in (s : List UInt8) (w : World) (hB : Base w) : Calls Tryd.prog 3 #[.string (bstr s)] w fun e w' => e = .returned (.bool true) ∧ Below w.heap.size w w' := by
  have HBX := Lib.hid (boxed_any w hB)
  have HLG := Lib.hid (fun W => long_any s W)
  have HB := Lib.hid hB
  clear hB
  go_enter Tryd.func3, Tryd.ntmps3
  go_wp2_with fail
  refine HBX.out.mono ?_
  rintro e w1 ⟨hb1, _, ab, cb, _, _, _, rfl⟩
  have HB1 := Lib.hid hb1
  clear hb1 HBX
  go_wp2_with fail
  refine (HLG.out _).mono ?_
  rintro e w1 ⟨rfl, rfl⟩
  by_cases h9 : 900 < s.length
  · have d9 : decide (900 < s.length) = true := decide_eq_true h9
    go_wp2_with fail
    go_ret
    exact ⟨rfl, HB1.out⟩
  · have d9 : decide (900 < s.length) = false := decide_eq_false h9
    have hs3 : s.length ≤ 3000 := by omega
    have HS3 := Lib.hid hs3
    have HS9 := Lib.hid (show s.length ≤ 900 by omega)
    have HPS := Lib.hid (parse_read s w1 hs3 (HB.out.up HB1.out))
    clear h9 hs3
    go_wp2_with fail
    refine HPS.out.mono ?_
    rintro e w2 ⟨hb2, ⟨tys, a, cap, vs, hm, rfl⟩ | ⟨hno, g, rfl⟩⟩
    · have HB2 := Lib.hid (HB1.out.trans (hb2.mono HB1.out.size))
      have HM := Lib.hid hm
      have HPR := Lib.hid (print_read hm HS3.out (HB.out.up HB2.out))
      have hlen := (hm.fine HS3.out).2.2.1
      have HFI := Lib.hid (hm.fine HS3.out).1
      have HRD := Lib.hid hm.rd
      obtain ⟨P, hP⟩ : ∃ P, P = Tm.prTs tys := ⟨_, rfl⟩
      rw [← hP] at hlen HPR
      have HP := Lib.hid hP
      have hPl : P.length ≤ 60000 := by have := HS9.out; omega
      clear hm hb2 hlen hP HPS HLG
      go_wp2_with fail
      refine HPR.out.mono ?_
      rintro e w3 ⟨rfl, hb3⟩
      have HB3 := Lib.hid (HB2.out.trans (hb3.mono HB2.out.size))
      have HM3 := Lib.hid (HM.out.up hb3)
      clear hb3 HPR
      go_wp2_with fail
      by_cases hl3 : P.length ≤ 3000
      · have HL3 := Lib.hid hl3
        have HPP := Lib.hid (parse_read P w3 hl3 (HB.out.up HB3.out))
        clear hl3 hPl
        refine HPP.out.mono ?_
        rintro e w4 ⟨hb4, ⟨tys2, a2, cap2, vs2, hm2, rfl⟩ | ⟨hno, g, rfl⟩⟩
        · have HB4 := Lib.hid (HB3.out.trans (hb4.mono HB3.out.size))
          have hsame : Tm.SameTs tys tys2 := by
            obtain ⟨l, h1, h2⟩ := read_again HS3.out HRD.out (by rw [← HP.out]; exact HL3.out)
            rw [← HP.out] at h2
            have := hm2.rd.det h2
            subst this
            exact h1
          have hpr2 : Tm.prTs tys2 = P := by rw [← Tm.same_prTs hsame, HP.out]
          have hck2 : Tm.chk [] tys2 = Tm.chk [] tys := Tm.chk_same hsame HFI.out
          have HM4 := Lib.hid (HM3.out.up hb4)
          have HN4 := Lib.hid hm2
          have HPR2 := Lib.hid hpr2; have HCK2 := Lib.hid hck2
          obtain ⟨n1, hn1⟩ : ∃ n1, n1 = tys.length := ⟨_, rfl⟩
          obtain ⟨n2, hn2⟩ : ∃ n2, n2 = tys2.length := ⟨_, rfl⟩
          rw [← hn1, ← hn2]
          have HN1 := Lib.hid hn1; have HN2 := Lib.hid hn2
          have hS0 : Hid (TysM w4 w1.heap.size s tys a cap vs) ∧ Hid (TysM w4 w3.heap.size P tys2 a2 cap2 vs2) ∧ Hid (Base w4) ∧ Hid (Below w.heap.size w w4) := ⟨HM4, HN4, Lib.hid (HB.out.up HB4.out), HB4⟩
          have hup : ∀ W W', (Hid (TysM W w1.heap.size s tys a cap vs) ∧ Hid (TysM W w3.heap.size P tys2 a2 cap2 vs2) ∧ Hid (Base W) ∧ Hid (Below w.heap.size w W)) → Below W.heap.size W W' → (Hid (TysM W' w1.heap.size s tys a cap vs) ∧ Hid (TysM W' w3.heap.size P tys2 a2 cap2 vs2) ∧ Hid (Base W') ∧ Hid (Below w.heap.size w W')) :=
            fun W W' h hb => ⟨Lib.hid (h.1.out.up hb), Lib.hid (h.2.1.out.up hb), Lib.hid (h.2.2.1.out.up hb), Lib.hid (h.2.2.2.out.trans (hb.mono h.2.2.2.out.size))⟩
          have HUP := Lib.hid hup
          have hS1 := hup w4 w4.drew hS0 (Below.refl _ _).drew
          have HPM := Lib.hid (fun W (h : Hid (TysM W w1.heap.size s tys a cap vs) ∧ Hid (TysM W w3.heap.size P tys2 a2 cap2 vs2) ∧ Hid (Base W) ∧ Hid (Below w.heap.size w W)) => (show Calls Tryd.prog 9 #[.slice a2 n2 cap2] W _ from by have := print_read h.2.1.out HL3.out h.2.2.1.out; rw [hpr2, ← hn2] at this; exact this))
          have HCL := Lib.hid (fun W (h : Hid (TysM W w1.heap.size s tys a cap vs) ∧ Hid (TysM W w3.heap.size P tys2 a2 cap2 vs2) ∧ Hid (Base W) ∧ Hid (Below w.heap.size w W)) => (show Calls Tryd.prog 10 #[.slice a n1 cap] W _ from by have := check_read h.1.out HS3.out; rw [← hn1] at this; exact this))
          have HCM := Lib.hid (fun W (h : Hid (TysM W w1.heap.size s tys a cap vs) ∧ Hid (TysM W w3.heap.size P tys2 a2 cap2 vs2) ∧ Hid (Base W) ∧ Hid (Below w.heap.size w W)) => (show Calls Tryd.prog 10 #[.slice a2 n2 cap2] W _ from by have := check_read h.2.1.out HL3.out; rw [hck2, ← hn2] at this; exact this))
          obtain ⟨o, ho⟩ : ∃ o, o = Tm.chk [] tys := ⟨_, rfl⟩
          rw [← ho] at HCL HCM
          unfold CheckOut at HCL HCM
          clear hb4 hm2 hsame hpr2 hck2 hn1 hn2 hup ho HPP
          go_wp2_with fail
          cases o with
          | none =>
            go_region_held3 (fun w1' => Hid (TysM w1' w1.heap.size s tys a cap vs) ∧ Hid (TysM w1' w3.heap.size P tys2 a2 cap2 vs2) ∧ Hid (Base w1') ∧ Hid (Below w.heap.size w w1'))
              (first
                | exact hS1
                | assumption)
              (first
                | (go_at_call 9; (with_reducible refine (HPM.out _ ?_).mono ?_); (next => (first | assumption | exact hS1)); (rintro e w9 ⟨rfl, hb9⟩); (have hS9 := HUP.out _ w9 (by first | assumption | exact hS1) hb9))
                | (go_at_call 10; (with_reducible refine (HCL.out _ ?_).mono ?_); (next => (first | assumption | exact hS1)); (rintro e w8 ⟨hb8, rfl⟩); (have hS8 := HUP.out _ w8 (by first | assumption | exact hS1) hb8))
                | (go_at_call 10; (with_reducible refine (HCM.out _ ?_).mono ?_); (next => (first | assumption | exact hS1)); (rintro e w7 ⟨hb7, rfl⟩); (have hS7 := HUP.out _ w7 (by first | assumption | exact hS1) hb7)))
            all_goals
              go_wp2_with fail
              go_ret
              exact ⟨rfl, by first | exact hS7.2.2.2.out | exact hS8.2.2.2.out⟩
          | some n =>
            go_region_held3 (fun w1' => Hid (TysM w1' w1.heap.size s tys a cap vs) ∧ Hid (TysM w1' w3.heap.size P tys2 a2 cap2 vs2) ∧ Hid (Base w1') ∧ Hid (Below w.heap.size w w1'))
              (first
                | exact hS1
                | assumption)
              (first
                | (go_at_call 9; (with_reducible refine (HPM.out _ ?_).mono ?_); (next => (first | assumption | exact hS1)); (rintro e w9 ⟨rfl, hb9⟩); (have hS9 := HUP.out _ w9 (by first | assumption | exact hS1) hb9))
                | (go_at_call 10; (with_reducible refine (HCL.out _ ?_).mono ?_); (next => (first | assumption | exact hS1)); (rintro e w8 ⟨hb8, g8, p8, rfl, _⟩); (have hS8 := HUP.out _ w8 (by first | assumption | exact hS1) hb8))
                | (go_at_call 10; (with_reducible refine (HCM.out _ ?_).mono ?_); (next => (first | assumption | exact hS1)); (rintro e w7 ⟨hb7, g7, p7, rfl, _⟩); (have hS7 := HUP.out _ w7 (by first | assumption | exact hS1) hb7)))
            all_goals
              go_wp2_with fail
              go_ret
              exact ⟨rfl, by first | exact hS7.2.2.2.out | exact hS8.2.2.2.out⟩
        · obtain ⟨l, h1, h2⟩ := read_again HS3.out HRD.out (by rw [← HP.out]; exact HL3.out)
          rw [← HP.out] at h2
          exact absurd h2 (hno l)
      · have HPL := Lib.hid (TParse_long P w3 (by omega) (by omega))
        have d3 : decide ((3000 : Int) < (P.length : Int)) = true := decide_eq_true (by omega)
        have d3n : decide (3000 < P.length) = true := decide_eq_true (by omega)
        clear hl3
        refine HPL.out.mono ?_
        rintro e w4 ⟨rfl, hb4⟩
        have HB4 := Lib.hid (HB3.out.trans (hb4.mono HB3.out.size))
        clear hb4 HPL
        go_wp2_with fail
        go_ret
        exact ⟨rfl, HB4.out⟩
    · have HB2 := Lib.hid (HB1.out.trans (hb2.mono HB1.out.size))
      clear hb2 hno HPS
      go_wp2_with fail
      go_ret
      exact ⟨rfl, HB2.out⟩
theorem TmplAgain_walk (s : ByteArray) (hs : s.size ≤ 140737488351232) (w : World) (hB : Base w) :
    Calls Tryd.prog 3 #[.string s] w fun e w' => e = .returned (.bool true) ∧ Below w.heap.size w w' := by
  obtain ⟨l, rfl⟩ : ∃ l, s = bstr l := ⟨_, eq_bstr s⟩
  exact TmplAgain_in l w hB
end Go.Proofs.YtfdmgeloghpodaaDoor
end
section
/- Tokens in a row; slices.Equal of tokens; the fact of tokens (cutUp). -/
namespace Go.Proofs.YtfdmgeloghpodaaDoor
open Go.RowKit
set_option linter.unusedVariables false
set_option linter.unusedSimpArgs false
theorem RowAt.new2 (w : World) (g : Nat) (hg : g = w.heap.size) (e : TypeId) (xs : List Value) : RowAt (w.alloc (.cells xs.toArray e)) g 0 e xs := by
  subst hg
  have := RowAt.new w e xs.toArray
  rwa [List.toList_toArray] at this
theorem tokCells_len (T : List Tok) : (tokCells T).length = T.length * 2 := by
  induction T with
  | nil => rfl
  | cons t T ih => simp only [tokCells, List.flatMap_cons, List.length_append, List.length_cons] at ih ⊢; rw [ih]; simp [tokCell]; omega
theorem tokCells_get : ∀ (T : List Tok) (k : Nat), k < T.length → (tokCells T)[k * 2]? = some (.string (bstr (T.getD k ([], 0)).1)) ∧ (tokCells T)[k * 2 + 1]? = some (.int .i64 ((T.getD k ([], 0)).2 : Nat)) := by
  intro T
  induction T with
  | nil => intro k h; simp at h
  | cons t T ih =>
    intro k h
    rcases k with _ | k
    · exact ⟨rfl, rfl⟩
    · have := ih k (by simpa using h)
      rw [show (k + 1) * 2 = k * 2 + 2 from by omega]
      exact this
/-- a slice of tokens that is read -/
def ReadsTok (w : World) (a : Option Addr) (T : List Tok) : Prop := ∀ k, k < T.length → ∃ g, a = some ⟨g, 0, none⟩ ∧ g < w.heap.size ∧ w.cell? ⟨g, k * 2, none⟩ = some (.string (bstr (T.getD k ([], 0)).1)) ∧ w.cell? ⟨g, k * 2 + 1, none⟩ = some (.int .i64 ((T.getD k ([], 0)).2 : Nat))
theorem rowTok {w : World} {g : Nat} {T : List Tok} (h : RowAt w g 0 38 (tokCells T)) : ReadsTok w (some ⟨g, 0, none⟩) T := by
  intro k hk
  obtain ⟨h1, h2⟩ := tokCells_get T k hk
  refine ⟨g, rfl, h.lt, ?_, ?_⟩
  · have := h.cell? (k * 2) (by rw [tokCells_len]; omega)
    rw [Nat.zero_add] at this
    rw [this, h1]
  · have := h.cell? (k * 2 + 1) (by rw [tokCells_len]; omega)
    rw [Nat.zero_add] at this
    rw [this, h2]
theorem ownTok {w : World} {B n cap : Nat} {a : Option Addr} {T : List Tok} (h : Owns w B 38 2 a n cap (tokCells T)) : ReadsTok w a T := by
  cases a with
  | none =>
    intro k hk
    have := h.of_none.2.2
    have h2 := tokCells_len T
    rw [this] at h2
    simp at h2
    omega
  | some x =>
    have hr := h.row
    rw [hr.1]
    exact rowTok hr.2.2.2.2
theorem ReadsTok.below {w w' : World} {a : Option Addr} {T : List Tok} (h : ReadsTok w a T) {B : Nat} (hb : Below B w w') (hB : w.heap.size ≤ B) : ReadsTok w' a T := by
  intro k hk
  obtain ⟨g, h1, h2, h3, h4⟩ := h k hk
  have hg : g < B := Nat.lt_of_lt_of_le h2 hB
  exact ⟨g, h1, Nat.lt_of_lt_of_le h2 hb.size, (hb.cell (p := ⟨g, k * 2, none⟩) hg).trans h3, (hb.cell (p := ⟨g, k * 2 + 1, none⟩) hg).trans h4⟩
theorem run_tokNe (x : ByteArray) (p : Int) (w : World) : (binOp .neq 38 (.agg #[.string x, .int .i64 p]) (.agg #[.string x, .int .i64 p])).run Tryd.prog w = .ok (.bool false) w := by
  have hS : Tryd.prog.underlying 38 = some (.struct (Tryd.prog.fieldsOf 38)) := by kernel_rfl
  have hp : Tryd.prog.stoodInHeld 38 = false := by kernel_rfl
  have a3 := Tryd.isAgg3
  have z3 := Tryd.sizeOf3
  have u3 := Tryd.underlying3
  have a9 := Tryd.isAgg9
  have z9 := Tryd.sizeOf9
  have u9 := Tryd.underlying9
  rw [run_neq_struct, show (10000 : Nat) = 9999 + 1 from rfl, run_equalIn_agg w 9999 38 _ _ hS hp]
  simp only [Program.fieldsOf, Tryd.underlying38]
  go_simp
set_option maxRecDepth 100000 in
theorem tokEqual_yes (a b : Option Addr) (n c d : Nat) (T : List Tok) (w : World) (hT : T.length = n) (hn : n ≤ 4611686018427387904) (ha : ReadsTok w a T) (hb : ReadsTok w b T) :
    Calls Tryd.prog 29 #[.slice a n c, .slice b n d] w fun e w' => e = .returned (.bool true) ∧ ∃ k, w' = w.drewN k := by
  have HT := Lib.hid hT; clear hT
  have HA := Lib.hid ha; clear ha
  have HB := Lib.hid hb; clear hb
  have hnn : ((n : Int) != (n : Int)) = false := by simp
  go_enter Tryd.func29, Tryd.ntmps29
  go_wp2_with fail
  go_loopw [13] (fun i wr => ∃ k : Nat, k ≤ n ∧ i = .int .i64 k ∧ ∃ q, Hid (wr = w.drewN q)) (fun i _ => n - (intOf i).toNat)
  case atStart => exact ⟨0, by omega, rfl, 0, rfl⟩
  case round =>
    obtain ⟨k, hk, rfl, q, hw⟩ := hrel
    obtain rfl := hw.out
    by_cases hlt : k < n
    · obtain ⟨g, rfl, hg, hc1, hc2⟩ := HA.out k (by rw [HT.out]; exact hlt)
      obtain ⟨g', rfl, hg', hc3, hc4⟩ := HB.out k (by rw [HT.out]; exact hlt)
      have hki : (k : Int) < (n : Int) := by omega
      have hrun := run_tokNe (bstr (T.getD k ([], 0)).1) ((T.getD k ([], 0)).2 : Nat)
      generalize bstr (T.getD k ([], 0)).1 = x at *
      generalize (T.getD k ([], 0)).2 = p at *
      have hd1 : (w.drewN q).cell? ⟨g, k * 2, none⟩ = some (.string x) := hc1
      have hd2 : (w.drewN q).cell? ⟨g, k * 2 + 1, none⟩ = some (.int .i64 (p : Nat)) := hc2
      have hd3 : (w.drewN q).cell? ⟨g', k * 2, none⟩ = some (.string x) := hc3
      have hd4 : (w.drewN q).cell? ⟨g', k * 2 + 1, none⟩ = some (.int .i64 (p : Nat)) := hc4
      clear hc1 hc2 hc3 hc4
      obtain ⟨wq, hwq⟩ : ∃ wq, wq = w.drewN q := ⟨_, rfl⟩
      rw [← hwq] at hd1 hd2 hd3 hd4
      rw [← hwq]
      have HWQ := Lib.hid hwq; clear hwq
      go_wp2_with fail
      go_quiet (fail)
      have HWN : Hid (wq.drewN nq = w.drewN (q + nq)) := Lib.hid (by rw [HWQ.out]; exact World.drewN_drewN _ _ _)
      clear hd1 hd2 hd3 hd4
      generalize wq.drewN nq = w4 at *
      go_wp2_with fail
      go_roundw
      case rel => exact ⟨k + 1, by omega, by go_num, _, HWN⟩
      case measure => simp [intOf]; omega
    · obtain rfl : k = n := by omega
      have hd : decide ((k : Int) < (k : Int)) = false := by simp
      go_wp2_with fail
      go_ret
      exact ⟨rfl, q, rfl⟩
theorem Name_x1 (w : World) : Calls Tryd.prog 13 #[.string (bstr [120, 49])] w fun e w' => e = .returned (.bool true) ∧ w = w' := by
  have hl := fun w => letter_any 120 (by decide) w
  rw [show Lex.letter 120 = true from by decide] at hl
  have HL := Lib.hid hl; clear hl
  go_enter Tryd.func13, Tryd.ntmps13
  go_wp2_with fail
  refine (HL.out _).mono ?_
  rintro e w1 ⟨rfl, rfl⟩
  go_wp2_with fail
  go_ret
  exact ⟨rfl, rfl⟩
end Go.Proofs.YtfdmgeloghpodaaDoor
end
section
/- The fact cutUp. -/
namespace Go.Proofs.YtfdmgeloghpodaaDoor
open Go.RowKit
set_option linter.unusedVariables false
set_option linter.unusedSimpArgs false
def cutToks : List Tok := [([97], 0), ([61, 61], 1), ([49, 50], 3), ([59], 10)]
set_option maxRecDepth 100000 in
theorem cutUp_any (w : World) (hm : MarksAt w) : Calls Tryd.prog 11 #[] w fun e w' => e = .returned (.bool true) ∧ Below w.heap.size w w' := by
  have hlex := Lex_any [97, 61, 61, 49, 50, 32, 35, 32, 98, 10, 59] w (by decide) hm
  have hval : Lex.lexA [97, 61, 61, 49, 50, 32, 35, 32, 98, 10, 59] 0 = some cutToks := by decide
  have HV := Lib.hid hval; have HL := Lib.hid hlex
  clear hval hlex
  have HN := Lib.hid (fun w => Name_x1 w)
  go_enter Tryd.func11, Tryd.ntmps11
  go_wp2_with fail
  refine HL.out.mono ?_
  rintro e w1 ⟨hb, ⟨T, a, cap, hT, rfl, ho⟩ | ⟨hT, _⟩⟩
  · have hTe : T = cutToks := Option.some.inj (hT.symm.trans HV.out)
    subst hTe
    have hrd := ownTok ho
    have HR := Lib.hid hrd; have HB := Lib.hid hb
    clear hrd hT ho hb
    go_wp2_with fail
    refine (tokEqual_yes a _ 4 cap 4 cutToks _ rfl (by decide) (HR.out.below ((Below.refl _ _).alloc (Nat.le_refl _) _) (Nat.le_refl _)) (rowTok (RowAt.new2 w1 w1.heap.size rfl 38 (tokCells cutToks)))).mono ?_
    rintro e w2 ⟨rfl, k, rfl⟩
    go_wp2_with fail
    refine (HN.out _).mono ?_
    rintro e w2 ⟨rfl, rfl⟩
    go_wp2_with fail
    go_ret
    exact ⟨rfl, bdrewN (HB.out.alloc HB.out.size _) _⟩
  · rw [HV.out] at hT; cases hT
end Go.Proofs.YtfdmgeloghpodaaDoor
end
