/- The law TmplPieces. -/
import Derived.Test.YtfdmgeloghpodaaDoorMgTmplPieces46
import Derived.Test.YtfdmgeloghpodaaDoorMgTmplPieces0
section
/- The law TmplAgain. -/
namespace Go.Proofs.YtfdmgeloghpodaaDoor
open Go.RowKit
set_option linter.unusedVariables false
set_option linter.unusedSimpArgs false
open Rd
/-- what is written of what was read, is read so -/
theorem read_again {s : List UInt8} {tys : List Tm.Ty} (hs : s.length ≤ 3000) (h : ReadT s tys) (hl : (Tm.prTs tys).length ≤ 3000) : ∃ l, Tm.SameTs tys l ∧ ReadT (Tm.prTs tys) l := by
  obtain ⟨T, h1, h2⟩ := h
  obtain ⟨_, hw, _⟩ := toks_lex hs h1
  have hf := h2.fine hw
  obtain ⟨T', h3, h4⟩ := toks_of (Tm.texts_prTs tys hf)
  obtain ⟨l, h5, h6⟩ := h2.back (E' := (Tm.prTs tys).length) hf T' h4
  exact ⟨l, h5, T', h3, h6⟩
set_option maxRecDepth 100000 in
set_option maxHeartbeats 8000000 in
theorem TmplAgain_in (s : List UInt8) (w : World) (hB : Base w) : Calls Tryd.prog 3 #[.string (bstr s)] w fun e w' => e = .returned (.bool true) ∧ Below w.heap.size w w' := by
  have HBX := Lib.hid (boxed_any w hB)
  have HLG := Lib.hid (fun W => long_any s W)
  have HB := Lib.hid hB
  clear hB
  go_enter Tryd.func3, Tryd.ntmps3
  go_wp2_with fail
  refine HBX.out.mono ?_
  rintro e w1 ⟨hb1, _, ab, cb, _, _, _, rfl⟩
  have HB1 := Lib.hid hb1
  clear hb1 HBX
  go_wp2_with fail
  refine (HLG.out _).mono ?_
  rintro e w1 ⟨rfl, rfl⟩
  by_cases h9 : 900 < s.length
  · have d9 : decide (900 < s.length) = true := decide_eq_true h9
    go_wp2_with fail
    go_ret
    exact ⟨rfl, HB1.out⟩
  · have d9 : decide (900 < s.length) = false := decide_eq_false h9
    have hs3 : s.length ≤ 3000 := by omega
    have HS3 := Lib.hid hs3
    have HS9 := Lib.hid (show s.length ≤ 900 by omega)
    have HPS := Lib.hid (parse_read s w1 hs3 (HB.out.up HB1.out))
    clear h9 hs3
    go_wp2_with fail
    refine HPS.out.mono ?_
    rintro e w2 ⟨hb2, ⟨tys, a, cap, vs, hm, rfl⟩ | ⟨hno, g, rfl⟩⟩
    · have HB2 := Lib.hid (HB1.out.trans (hb2.mono HB1.out.size))
      have HM := Lib.hid hm
      have HPR := Lib.hid (print_read hm HS3.out (HB.out.up HB2.out))
      have hlen := (hm.fine HS3.out).2.2.1
      have HFI := Lib.hid (hm.fine HS3.out).1
      have HRD := Lib.hid hm.rd
      obtain ⟨P, hP⟩ : ∃ P, P = Tm.prTs tys := ⟨_, rfl⟩
      rw [← hP] at hlen HPR
      have HP := Lib.hid hP
      have hPl : P.length ≤ 60000 := by have := HS9.out; omega
      clear hm hb2 hlen hP HPS HLG
      go_wp2_with fail
      refine HPR.out.mono ?_
      rintro e w3 ⟨rfl, hb3⟩
      have HB3 := Lib.hid (HB2.out.trans (hb3.mono HB2.out.size))
      have HM3 := Lib.hid (HM.out.up hb3)
      clear hb3 HPR
      go_wp2_with fail
      by_cases hl3 : P.length ≤ 3000
      · have HL3 := Lib.hid hl3
        have HPP := Lib.hid (parse_read P w3 hl3 (HB.out.up HB3.out))
        clear hl3 hPl
        refine HPP.out.mono ?_
        rintro e w4 ⟨hb4, ⟨tys2, a2, cap2, vs2, hm2, rfl⟩ | ⟨hno, g, rfl⟩⟩
        · have HB4 := Lib.hid (HB3.out.trans (hb4.mono HB3.out.size))
          have hsame : Tm.SameTs tys tys2 := by
            obtain ⟨l, h1, h2⟩ := read_again HS3.out HRD.out (by rw [← HP.out]; exact HL3.out)
            rw [← HP.out] at h2
            have := hm2.rd.det h2
            subst this
            exact h1
          have hpr2 : Tm.prTs tys2 = P := by rw [← Tm.same_prTs hsame, HP.out]
          have hck2 : Tm.chk [] tys2 = Tm.chk [] tys := Tm.chk_same hsame HFI.out
          have HM4 := Lib.hid (HM3.out.up hb4)
          have HN4 := Lib.hid hm2
          have HPR2 := Lib.hid hpr2; have HCK2 := Lib.hid hck2
          obtain ⟨n1, hn1⟩ : ∃ n1, n1 = tys.length := ⟨_, rfl⟩
          obtain ⟨n2, hn2⟩ : ∃ n2, n2 = tys2.length := ⟨_, rfl⟩
          rw [← hn1, ← hn2]
          have HN1 := Lib.hid hn1; have HN2 := Lib.hid hn2
          have hS0 : Hid (TysM w4 w1.heap.size s tys a cap vs) ∧ Hid (TysM w4 w3.heap.size P tys2 a2 cap2 vs2) ∧ Hid (Base w4) ∧ Hid (Below w.heap.size w w4) := ⟨HM4, HN4, Lib.hid (HB.out.up HB4.out), HB4⟩
          have hup : ∀ W W', (Hid (TysM W w1.heap.size s tys a cap vs) ∧ Hid (TysM W w3.heap.size P tys2 a2 cap2 vs2) ∧ Hid (Base W) ∧ Hid (Below w.heap.size w W)) → Below W.heap.size W W' → (Hid (TysM W' w1.heap.size s tys a cap vs) ∧ Hid (TysM W' w3.heap.size P tys2 a2 cap2 vs2) ∧ Hid (Base W') ∧ Hid (Below w.heap.size w W')) :=
            fun W W' h hb => ⟨Lib.hid (h.1.out.up hb), Lib.hid (h.2.1.out.up hb), Lib.hid (h.2.2.1.out.up hb), Lib.hid (h.2.2.2.out.trans (hb.mono h.2.2.2.out.size))⟩
          have HUP := Lib.hid hup
          have hS1 := hup w4 w4.drew hS0 (Below.refl _ _).drew
          have HPM := Lib.hid (fun W (h : Hid (TysM W w1.heap.size s tys a cap vs) ∧ Hid (TysM W w3.heap.size P tys2 a2 cap2 vs2) ∧ Hid (Base W) ∧ Hid (Below w.heap.size w W)) => (show Calls Tryd.prog 9 #[.slice a2 n2 cap2] W _ from by have := print_read h.2.1.out HL3.out h.2.2.1.out; rw [hpr2, ← hn2] at this; exact this))
          have HCL := Lib.hid (fun W (h : Hid (TysM W w1.heap.size s tys a cap vs) ∧ Hid (TysM W w3.heap.size P tys2 a2 cap2 vs2) ∧ Hid (Base W) ∧ Hid (Below w.heap.size w W)) => (show Calls Tryd.prog 10 #[.slice a n1 cap] W _ from by have := check_read h.1.out HS3.out; rw [← hn1] at this; exact this))
          have HCM := Lib.hid (fun W (h : Hid (TysM W w1.heap.size s tys a cap vs) ∧ Hid (TysM W w3.heap.size P tys2 a2 cap2 vs2) ∧ Hid (Base W) ∧ Hid (Below w.heap.size w W)) => (show Calls Tryd.prog 10 #[.slice a2 n2 cap2] W _ from by have := check_read h.2.1.out HL3.out; rw [hck2, ← hn2] at this; exact this))
          obtain ⟨o, ho⟩ : ∃ o, o = Tm.chk [] tys := ⟨_, rfl⟩
          rw [← ho] at HCL HCM
          unfold CheckOut at HCL HCM
          clear hb4 hm2 hsame hpr2 hck2 hn1 hn2 hup ho HPP
          go_wp2_with fail
          cases o with
          | none =>
            go_region_held3 (fun w1' => Hid (TysM w1' w1.heap.size s tys a cap vs) ∧ Hid (TysM w1' w3.heap.size P tys2 a2 cap2 vs2) ∧ Hid (Base w1') ∧ Hid (Below w.heap.size w w1'))
              (first
                | exact hS1
                | assumption)
              (first
                | (go_at_call 9; (with_reducible refine (HPM.out _ ?_).mono ?_); (next => (first | assumption | exact hS1)); (rintro e w9 ⟨rfl, hb9⟩); (have hS9 := HUP.out _ w9 (by first | assumption | exact hS1) hb9))
                | (go_at_call 10; (with_reducible refine (HCL.out _ ?_).mono ?_); (next => (first | assumption | exact hS1)); (rintro e w8 ⟨hb8, rfl⟩); (have hS8 := HUP.out _ w8 (by first | assumption | exact hS1) hb8))
                | (go_at_call 10; (with_reducible refine (HCM.out _ ?_).mono ?_); (next => (first | assumption | exact hS1)); (rintro e w7 ⟨hb7, rfl⟩); (have hS7 := HUP.out _ w7 (by first | assumption | exact hS1) hb7)))
            all_goals
              go_wp2_with fail
              go_ret
              exact ⟨rfl, by first | exact hS7.2.2.2.out | exact hS8.2.2.2.out⟩
          | some n =>
            go_region_held3 (fun w1' => Hid (TysM w1' w1.heap.size s tys a cap vs) ∧ Hid (TysM w1' w3.heap.size P tys2 a2 cap2 vs2) ∧ Hid (Base w1') ∧ Hid (Below w.heap.size w w1'))
              (first
                | exact hS1
                | assumption)
              (first
                | (go_at_call 9; (with_reducible refine (HPM.out _ ?_).mono ?_); (next => (first | assumption | exact hS1)); (rintro e w9 ⟨rfl, hb9⟩); (have hS9 := HUP.out _ w9 (by first | assumption | exact hS1) hb9))
                | (go_at_call 10; (with_reducible refine (HCL.out _ ?_).mono ?_); (next => (first | assumption | exact hS1)); (rintro e w8 ⟨hb8, g8, p8, rfl, _⟩); (have hS8 := HUP.out _ w8 (by first | assumption | exact hS1) hb8))
                | (go_at_call 10; (with_reducible refine (HCM.out _ ?_).mono ?_); (next => (first | assumption | exact hS1)); (rintro e w7 ⟨hb7, g7, p7, rfl, _⟩); (have hS7 := HUP.out _ w7 (by first | assumption | exact hS1) hb7)))
            all_goals
              go_wp2_with fail
              go_ret
              exact ⟨rfl, by first | exact hS7.2.2.2.out | exact hS8.2.2.2.out⟩
        · obtain ⟨l, h1, h2⟩ := read_again HS3.out HRD.out (by rw [← HP.out]; exact HL3.out)
          rw [← HP.out] at h2
          exact absurd h2 (hno l)
      · have HPL := Lib.hid (TParse_long P w3 (by omega) (by omega))
        have d3 : decide ((3000 : Int) < (P.length : Int)) = true := decide_eq_true (by omega)
        have d3n : decide (3000 < P.length) = true := decide_eq_true (by omega)
        clear hl3
        refine HPL.out.mono ?_
        rintro e w4 ⟨rfl, hb4⟩
        have HB4 := Lib.hid (HB3.out.trans (hb4.mono HB3.out.size))
        clear hb4 HPL
        go_wp2_with fail
        go_ret
        exact ⟨rfl, HB4.out⟩
    · have HB2 := Lib.hid (HB1.out.trans (hb2.mono HB1.out.size))
      clear hb2 hno HPS
      go_wp2_with fail
      go_ret
      exact ⟨rfl, HB2.out⟩
theorem TmplAgain_walk (s : ByteArray) (hs : s.size ≤ 140737488351232) (w : World) (hB : Base w) :
    Calls Tryd.prog 3 #[.string s] w fun e w' => e = .returned (.bool true) ∧ Below w.heap.size w w' := by
  obtain ⟨l, rfl⟩ : ∃ l, s = bstr l := ⟨_, eq_bstr s⟩
  exact TmplAgain_in l w hB
end Go.Proofs.YtfdmgeloghpodaaDoor
end
section
/- Two texts with a line feed between: the tokens of both. -/
namespace Go.Proofs.YtfdmgeloghpodaaDoor
set_option linter.unusedVariables false
set_option linter.unusedSimpArgs false
namespace Lex
theorem takeWhile_nl (p : UInt8 → Bool) (hp : p 10 = false) (r : List UInt8) : ∀ x : List UInt8, (x ++ 10 :: r).takeWhile p = x.takeWhile p
  | [] => by simp [List.takeWhile_cons, hp]
  | c :: x => by
    rw [List.cons_append, List.takeWhile_cons, List.takeWhile_cons, takeWhile_nl p hp r x]
theorem prefix_nl (r : List UInt8) : ∀ (m x : List UInt8), 10 ∉ m → m.isPrefixOf (x ++ 10 :: r) = m.isPrefixOf x
  | [], x, _ => by cases x <;> rfl
  | a :: m, [], h => by
    have : a ≠ 10 := fun e => h (by simp [e])
    simp [List.isPrefixOf, this]
  | a :: m, c :: x, h => by
    show (a == c && m.isPrefixOf (x ++ 10 :: r)) = (a == c && m.isPrefixOf x)
    rw [prefix_nl r m x (fun e => h (List.mem_cons_of_mem _ e))]
theorem marks_nl : ∀ m ∈ marks, 10 ∉ m := by decide
theorem find_ext {α : Type} {p q : α → Bool} : ∀ {l : List α}, (∀ a ∈ l, p a = q a) → l.find? p = l.find? q
  | [], _ => rfl
  | a :: l, h => by
    rw [List.find?_cons, List.find?_cons, h a (by simp), find_ext (l := l) (fun b hb => h b (by simp [hb]))]
theorem next_nl (c : UInt8) (l r : List UInt8) : next (c :: l ++ 10 :: r) = next (c :: l) := by
  rw [List.cons_append, next_cons, next_cons, ← List.cons_append, takeWhile_nl word (by decide)]
  split
  · rfl
  · unfold markLen
    rw [find_ext (q := fun m => m.isPrefixOf (c :: l)) (fun m hm => prefix_nl r m (c :: l) (marks_nl m hm))]
theorem note_nl (l r : List UInt8) : note (l ++ 10 :: r) = note l := by
  unfold note
  rw [takeWhile_nl _ (by decide)]
theorem lex_join (r : List UInt8) : ∀ (n : Nat) (l : List UInt8) (i : Nat) (T : List (List UInt8 × Nat)), l.length ≤ n → lexA l i = some T → lexA (l ++ 10 :: r) i = (lexA r (i + l.length + 1)).map (T ++ ·) := by
  intro n
  induction n with
  | zero =>
    intro l i T h hT
    obtain rfl : l = [] := List.eq_nil_of_length_eq_zero (by omega)
    rw [lexA_nil] at hT
    cases hT
    rw [List.nil_append, lexA_blank 10 r i (.inr (.inl rfl))]
    simp
  | succ n ih =>
    intro l i T h hT
    cases l with
    | nil =>
      rw [lexA_nil] at hT
      cases hT
      rw [List.nil_append, lexA_blank 10 r i (.inr (.inl rfl))]
      simp
    | cons c l =>
      simp only [List.length_cons] at h
      by_cases h1 : c = 32 ∨ c = 10 ∨ c = 9
      · rw [lexA_blank c l i h1] at hT
        rw [List.cons_append, lexA_blank c _ i h1, ih l (i + 1) T (by omega) hT, List.length_cons]
        congr 2
        omega
      · by_cases h2 : c = 35
        · subst h2
          rw [lexA_note] at hT
          have h3 := note_pos l
          have h4 := note_le (35 :: l)
          rw [List.cons_append, lexA_note, ← List.cons_append, note_nl, List.drop_append_of_le_length h4, ih _ _ T (by rw [List.length_drop]; simp only [List.length_cons] at h4 ⊢; omega) hT, List.length_drop]
          congr 2
          simp only [List.length_cons] at h4 ⊢
          omega
        · by_cases h3 : next (c :: l) = 0
          · rw [lexA_bad c l i h1 h2 h3] at hT; cases hT
          · have h4 := next_le (c :: l)
            rw [lexA_tok c l i h1 h2 h3] at hT
            have h5 : next (c :: (l ++ 10 :: r)) = next (c :: l) := next_nl c l r
            rw [List.cons_append, lexA_tok c _ i h1 h2 (by rw [h5]; exact h3), h5, ← List.cons_append, List.drop_append_of_le_length h4, List.take_append_of_le_length h4]
            cases hx : lexA ((c :: l).drop (next (c :: l))) (i + next (c :: l)) with
            | none => rw [hx] at hT; cases hT
            | some T' =>
              rw [hx] at hT
              simp only [Option.map_some, Option.some.injEq] at hT
              subst hT
              rw [ih _ _ T' (by rw [List.length_drop]; simp only [List.length_cons] at h4 ⊢; omega) hx, List.length_drop, Option.map_map]
              have e : i + next (c :: l) + ((c :: l).length - next (c :: l)) + 1 = i + (c :: l).length + 1 := by omega
              rw [e]
              congr 1
end Lex
end Go.Proofs.YtfdmgeloghpodaaDoor
end
section
/- The law TmplPieces. -/
namespace Go.Proofs.YtfdmgeloghpodaaDoor
open Go.RowKit
set_option linter.unusedVariables false
set_option linter.unusedSimpArgs false
open Rd
theorem sameTs_len {l m : List Tm.Ty} (h : Tm.SameTs l m) : l.length = m.length := by
  induction h with
  | nil => rfl
  | cons _ _ ih => simp [ih]
/-- two texts with a line feed between are both -/
theorem pieces_read {a b : List UInt8} {x y : List Tm.Ty} (hx : ReadT a x) (hy : ReadT b y) (h8 : x.length + y.length ≤ 8) : ∃ z, ReadT (a ++ 10 :: b) z ∧ Tm.prTs z = Tm.prTs x ++ Tm.prTs y ∧ z.length = x.length + y.length := by
  obtain ⟨Ta, h1, h2⟩ := hx
  obtain ⟨Tb, h3, h4⟩ := hy
  have hj := Lex.lex_join b a.length a 0 Ta (Nat.le_refl _) h1
  have hs := Ex.texts_shift b (0 + a.length + 1) 0
  unfold Ex.texts at hs
  rw [h3] at hs
  cases hb : Lex.lexA b (0 + a.length + 1) with
  | none => rw [hb] at hs; cases hs
  | some Tb' =>
    rw [hb] at hs hj
    have hfs : Tb'.map Prod.fst = Tb.map Prod.fst := by simpa using hs
    obtain ⟨x', e1, e2⟩ := h2.shift (E' := (a ++ 10 :: b).length) (S := Ta) rfl
    obtain ⟨y', e3, e4⟩ := h4.shift (E' := (a ++ 10 :: b).length) (S := Tb') hfs
    have l1 := sameTs_len e1
    have l2 := sameTs_len e3
    refine ⟨x' ++ y', ⟨Ta ++ Tb', by simpa using hj, Tm.Tys.append e2 (by rw [Nat.zero_add]; exact Tm.Tys.from e4 _ (by omega))⟩, ?_, by rw [List.length_append]; omega⟩
    unfold Tm.prTs
    rw [List.flatMap_append]
    show Tm.prTs x' ++ Tm.prTs y' = Tm.prTs x ++ Tm.prTs y
    rw [Tm.same_prTs e1, Tm.same_prTs e3]
set_option maxRecDepth 100000 in
set_option maxHeartbeats 8000000 in
theorem TmplPieces_in (s r : List UInt8) (w : World) (hB : Base w) : Calls Tryd.prog 4 #[.string (bstr s), .string (bstr r)] w fun e w' => e = .returned (.bool true) ∧ Below w.heap.size w w' := by
  have HBX := Lib.hid (boxed_any w hB)
  have HLG := Lib.hid (fun l W => long_any l W)
  have HB := Lib.hid hB
  clear hB
  by_cases h9 : 900 < s.length
  · have d9 : decide (900 < s.length) = true := decide_eq_true h9
    clear h9
    go_enter Tryd.func4, Tryd.ntmps4
    go_wp2_with fail
    refine HBX.out.mono ?_
    rintro e w1 ⟨hb1, _, ab, cb, _, _, _, rfl⟩
    have HB1 := Lib.hid hb1
    clear hb1 HBX
    go_wp2_with fail
    refine (HLG.out _ _).mono ?_
    rintro e w1 ⟨rfl, rfl⟩
    go_wp2_with fail
    go_ret
    exact ⟨rfl, HB1.out⟩
  · have d9 : decide (900 < s.length) = false := decide_eq_false h9
    by_cases h8 : 900 < r.length
    · have d8 : decide (900 < r.length) = true := decide_eq_true h8
      clear h9 h8
      go_enter Tryd.func4, Tryd.ntmps4
      go_wp2_with fail
      refine HBX.out.mono ?_
      rintro e w1 ⟨hb1, _, ab, cb, _, _, _, rfl⟩
      have HB1 := Lib.hid hb1
      clear hb1 HBX
      go_wp2_with fail
      refine (HLG.out _ _).mono ?_
      rintro e w1 ⟨rfl, rfl⟩
      go_wp2_with fail
      refine (HLG.out _ _).mono ?_
      rintro e w1 ⟨rfl, rfl⟩
      go_wp2_with fail
      go_ret
      exact ⟨rfl, HB1.out⟩
    · have d8 : decide (900 < r.length) = false := decide_eq_false h8
      have hs : s.length ≤ 900 := by omega
      have hr : r.length ≤ 900 := by omega
      have HPA := Lib.hid (fun W (h : Base W) => parse_read s W (by omega) h)
      have HPB := Lib.hid (fun W (h : Base W) => parse_read r W (by omega) h)
      have HPC := Lib.hid (fun W (h : Base W) => parse_read (s ++ 10 :: r) W (by rw [List.length_append, List.length_cons]; omega) h)
      have z1 : ¬ 9223372036854775807 < s.length + 1 := by omega
      have z2 : ¬ 9223372036854775807 < s.length + 1 + r.length := by omega
      have e1 : bstr s ++ { data := #[10] } ++ bstr r = bstr (s ++ 10 :: r) := by
        rw [show ({ data := #[10] } : ByteArray) = bstr [10] from rfl]
        simp only [bstr_append, List.append_assoc]
        rfl
      have E1 := Lib.hid e1
      have HS := Lib.hid hs; have HR := Lib.hid hr
      clear h9 h8 hs hr e1
      go_enter Tryd.func4, Tryd.ntmps4
      go_wp2_with fail
      refine HBX.out.mono ?_
      rintro e w1 ⟨hb1, _, ab, cb, _, _, _, rfl⟩
      have HB1 := Lib.hid hb1
      clear hb1 HBX
      go_wp2_with fail
      refine (HLG.out _ _).mono ?_
      rintro e w1 ⟨rfl, rfl⟩
      go_wp2_with fail
      refine (HLG.out _ _).mono ?_
      rintro e w1 ⟨rfl, rfl⟩
      go_wp2_with fail
      refine (HPA.out w1 (HB.out.up HB1.out)).mono ?_
      rintro e w2 ⟨hb2, ⟨xs, a2, c2, v2, hm2, rfl⟩ | ⟨hno2, g2, rfl⟩⟩
      · have HB2 := Lib.hid (HB1.out.trans (hb2.mono HB1.out.size))
        have M2 := Lib.hid hm2
        clear hb2 hm2
        go_wp2_with fail
        refine (HPB.out w2 (HB.out.up HB2.out)).mono ?_
        rintro e w3 ⟨hb3, ⟨ys, a3, c3, v3, hm3, rfl⟩ | ⟨hno3, g3, rfl⟩⟩
        · have HB3 := Lib.hid (HB2.out.trans (hb3.mono HB2.out.size))
          have M3 := Lib.hid hm3
          have M23 := Lib.hid (M2.out.up hb3)
          have hn2 := (M2.out.fine (by have := HS.out; omega)).2.2.2
          have hn3 := (M3.out.fine (by have := HR.out; omega)).2.2.2
          clear hb3 hm3
          obtain ⟨n2, hN2⟩ : ∃ n2, n2 = xs.length := ⟨_, rfl⟩
          obtain ⟨n3, hN3⟩ : ∃ n3, n3 = ys.length := ⟨_, rfl⟩
          rw [← hN2] at hn2 ⊢
          rw [← hN3] at hn3 ⊢
          have HN2 := Lib.hid hN2; have HN3 := Lib.hid hN3
          clear hN2 hN3
          have hw64 : wrap64 ((n2 : Int) + (n3 : Int)) = (n2 : Int) + (n3 : Int) := IntWalk.wrap64_in _ ⟨by omega, by omega⟩
          by_cases h88 : 8 < n2 + n3
          · have t1 : decide ((8 : Int) < (n2 : Int) + (n3 : Int)) = true := decide_eq_true (by omega)
            have t2 : decide (8 < n2 + n3) = true := decide_eq_true h88
            go_wp2_with fail
            go_ret
            exact ⟨rfl, HB3.out⟩
          · have t1 : decide ((8 : Int) < (n2 : Int) + (n3 : Int)) = false := decide_eq_false (by omega)
            have t2 : decide (8 < n2 + n3) = false := decide_eq_false h88
            have H8 := Lib.hid (show xs.length + ys.length ≤ 8 by rw [← HN2.out, ← HN3.out]; omega)
            have hpc := HPC.out w3 (HB.out.up HB3.out)
            rw [← E1.out] at hpc
            have HPC3 := Lib.hid hpc
            clear h88 hpc hn2 hn3
            go_wp2_with fail
            refine HPC3.out.mono ?_
            rintro e w4 ⟨hb4, ⟨zs, a4, c4, v4, hm4, rfl⟩ | ⟨hno4, _⟩⟩
            · have HB4 := Lib.hid (HB3.out.trans (hb4.mono HB3.out.size))
              have M4 := Lib.hid hm4
              have M24 := Lib.hid (M23.out.up hb4); have M34 := Lib.hid (M3.out.up hb4)
              obtain ⟨z, g1, g2, g3⟩ := pieces_read M2.out.rd M3.out.rd H8.out
              obtain rfl := hm4.rd.det g1
              have lx := (M2.out.fine (by have := HS.out; omega)).2.2.1
              have ly := (M3.out.fine (by have := HR.out; omega)).2.2.1
              have hsl := HS.out; have hrl := HR.out
              have hl3 : (s ++ 10 :: r).length ≤ 3000 := by rw [List.length_append, List.length_cons]; omega
              have HPZ := Lib.hid (print_read hm4 hl3 (HB.out.up HB4.out))
              have HPX := Lib.hid (fun W h hB => print_read (w := W) (M24.out.up h) (by omega) hB)
              have HPY := Lib.hid (fun W h hB => print_read (w := W) (M34.out.up h) (by omega) hB)
              rw [← HN2.out] at HPX
              rw [← HN3.out] at HPY
              obtain ⟨X, hX⟩ : ∃ X, X = Tm.prTs xs := ⟨_, rfl⟩
              obtain ⟨Y, hY⟩ : ∃ Y, Y = Tm.prTs ys := ⟨_, rfl⟩
              rw [← hX] at HPX lx; rw [← hY] at HPY ly
              rw [g2, ← hX, ← hY] at HPZ
              obtain ⟨n4, hN4⟩ : ∃ n4, n4 = zs.length := ⟨_, rfl⟩
              rw [← hN4] at HPZ ⊢
              have y1 : ¬ 9223372036854775807 < X.length + Y.length := by omega
              clear hb4 hm4 g1 g2 g3 hX hY hsl hrl lx ly hl3 hN4
              go_wp2_with fail
              refine HPZ.out.mono ?_
              rintro e w5 ⟨rfl, hb5⟩
              have HB5 := Lib.hid (HB4.out.trans (hb5.mono HB4.out.size))
              have HU5 := Lib.hid hb5
              clear hb5
              go_wp2_with fail
              refine (HPX.out w5 HU5.out (HB.out.up HB5.out)).mono ?_
              rintro e w6 ⟨rfl, hb6⟩
              have HB6 := Lib.hid (HB5.out.trans (hb6.mono HB5.out.size))
              have HU6 := Lib.hid (HU5.out.trans (hb6.mono HU5.out.size))
              clear hb6
              go_wp2_with fail
              refine (HPY.out w6 HU6.out (HB.out.up HB6.out)).mono ?_
              rintro e w7 ⟨rfl, hb7⟩
              have HB7 := Lib.hid (HB6.out.trans (hb7.mono HB6.out.size))
              clear hb7
              go_wp2_with fail
              go_ret
              exact ⟨rfl, HB7.out⟩
            · obtain ⟨z, g1, _⟩ := pieces_read M2.out.rd M3.out.rd H8.out
              exact absurd g1 (hno4 z)
        · have HB3 := Lib.hid (HB2.out.trans (hb3.mono HB2.out.size))
          clear hb3 hno3
          go_wp2_with fail
          go_ret
          exact ⟨rfl, HB3.out⟩
      · have HB2 := Lib.hid (HB1.out.trans (hb2.mono HB1.out.size))
        clear hb2 hno2
        go_wp2_with fail
        refine (HPB.out w2 (HB.out.up HB2.out)).mono ?_
        rintro e w3 ⟨hb3, ⟨ys, a3, c3, v3, hm3, rfl⟩ | ⟨hno3, g3, rfl⟩⟩
        · have HB3 := Lib.hid (HB2.out.trans (hb3.mono HB2.out.size))
          clear hb3 hm3
          go_wp2_with fail
          go_ret
          exact ⟨rfl, HB3.out⟩
        · have HB3 := Lib.hid (HB2.out.trans (hb3.mono HB2.out.size))
          clear hb3 hno3
          go_wp2_with fail
          go_ret
          exact ⟨rfl, HB3.out⟩
theorem TmplPieces_walk (s r : ByteArray) (hs : s.size ≤ 140737488351232) (hr : r.size ≤ 140737488351232) (w : World) (hB : Base w) :
    Calls Tryd.prog 4 #[.string s, .string r] w fun e w' => e = .returned (.bool true) ∧ Below w.heap.size w w' := by
  obtain ⟨l, rfl⟩ : ∃ l, s = bstr l := ⟨_, eq_bstr s⟩
  obtain ⟨m, rfl⟩ : ∃ m, r = bstr m := ⟨_, eq_bstr r⟩
  exact TmplPieces_in l m w hB
end Go.Proofs.YtfdmgeloghpodaaDoor
end
