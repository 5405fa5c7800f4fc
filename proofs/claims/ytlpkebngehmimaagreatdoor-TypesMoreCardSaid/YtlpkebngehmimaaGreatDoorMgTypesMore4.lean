/- Contract of lex.Lex. -/
import Derived.Test.YtlpkebngehmimaaGreatDoorMgTypesMore3
section
/- Contract of lex.Lex. -/
namespace Go.Proofs.YtlpkebngehmimaaGreatDoor
open Go.RowKit
set_option linter.unusedVariables false
set_option linter.unusedSimpArgs false
abbrev Tok := List UInt8 × Nat
def tokCell (t : Tok) : List Value := [.string (bstr t.1), .int .i64 (t.2 : Nat)]
def tokCells (T : List Tok) : List Value := T.flatMap tokCell
theorem tokCells_snoc (T : List Tok) (t : Tok) : tokCells (T ++ [t]) = tokCells T ++ tokCell t := by simp [tokCells]
theorem infoTok : (Tryz.prog.info? 108).map (fun i => (i.zero, i.size, i.bytes)) = some (some (.agg #[.string ByteArray.empty, .int .i64 0]), 2, 24) := by kernel_rfl
namespace Lex
theorem note_lt : ∀ (l : List UInt8) (k : Nat), k < note l → l.getD k 0 ≠ 10 := by
  intro l k h
  unfold note at h
  have h1 := takeWhile_all (fun c => c != 10) l ((l.takeWhile fun c => c != 10)[k]) (List.getElem_mem h)
  have h2 : l.getD k 0 = (l.takeWhile fun c => c != 10)[k] := by
    have hp := List.takeWhile_prefix (fun c : UInt8 => c != 10) (l := l)
    have := hp.getElem (by exact h)
    rw [this, List.getD_eq_getElem?_getD, List.getElem?_eq_getElem]
    rfl
  rw [h2]
  simpa using h1
theorem note_stop : ∀ (l : List UInt8), note l < l.length → l.getD (note l) 0 = 10 := by
  intro l
  unfold note
  induction l with
  | nil => intro h; simp at h
  | cons c l ih =>
    intro h
    rw [List.takeWhile_cons] at h ⊢
    by_cases hc : (c != 10) = true
    · rw [if_pos hc] at h ⊢
      simp only [List.length_cons] at h ⊢
      have := ih (by omega)
      simpa using this
    · rw [if_neg hc]
      simpa using hc
theorem drop_cons (s : List UInt8) (i : Nat) (h : i < s.length) : s.drop i = s.getD i 0 :: s.drop (i + 1) := by
  rw [List.drop_eq_getElem_cons h, List.getD_eq_getElem?_getD, List.getElem?_eq_getElem h]; rfl
theorem drop_getD (s : List UInt8) (i k : Nat) : (s.drop i).getD k 0 = s.getD (i + k) 0 := by
  simp only [List.getD_eq_getElem?_getD, List.getElem?_drop]
theorem step_blank (s : List UInt8) (i : Nat) (h : i < s.length) (hc : s.getD i 0 = 32 ∨ s.getD i 0 = 10 ∨ s.getD i 0 = 9) : lexA (s.drop i) i = lexA (s.drop (i + 1)) (i + 1) := by
  rw [drop_cons s i h, lexA_blank _ _ _ hc]
theorem step_note (s : List UInt8) (i : Nat) (h : i < s.length) (hc : s.getD i 0 = 35) : lexA (s.drop i) i = lexA (s.drop (i + note (s.drop i))) (i + note (s.drop i)) ∧ 0 < note (s.drop i) := by
  have hd : s.drop i = 35 :: s.drop (i + 1) := by rw [drop_cons s i h, hc]
  have hn := lexA_note (s.drop (i + 1)) i
  rw [← hd, List.drop_drop] at hn
  exact ⟨hn, by rw [hd]; exact note_pos _⟩
theorem step_bad (s : List UInt8) (i : Nat) (h : i < s.length) (h1 : ¬ (s.getD i 0 = 32 ∨ s.getD i 0 = 10 ∨ s.getD i 0 = 9)) (h2 : s.getD i 0 ≠ 35) (h3 : next (s.drop i) = 0) : lexA (s.drop i) i = none := by
  rw [drop_cons s i h] at h3 ⊢
  exact lexA_bad _ _ _ h1 h2 h3
theorem step_tok (s : List UInt8) (i : Nat) (h : i < s.length) (h1 : ¬ (s.getD i 0 = 32 ∨ s.getD i 0 = 10 ∨ s.getD i 0 = 9)) (h2 : s.getD i 0 ≠ 35) (h3 : next (s.drop i) ≠ 0) :
    lexA (s.drop i) i = (lexA (s.drop (i + next (s.drop i))) (i + next (s.drop i))).map fun T => ((s.drop i).take (next (s.drop i)), i) :: T := by
  have hd := drop_cons s i h
  have := lexA_tok (s.getD i 0) (s.drop (i + 1)) i h1 h2 (by rw [← hd]; exact h3)
  rw [← hd, List.drop_drop] at this
  exact this
/-- so far these tokens -/
def Far (s : List UInt8) (i : Nat) (A : List Tok) : Prop := lexA s 0 = (lexA (s.drop i) i).map fun T => A ++ T
theorem Far.start (s : List UInt8) : Far s 0 [] := by
  unfold Far
  rw [List.drop_zero]
  cases lexA s 0 <;> rfl
theorem Far.same {s : List UInt8} {i j : Nat} {A : List Tok} (h : Far s i A) (he : lexA (s.drop i) i = lexA (s.drop j) j) : Far s j A := by unfold Far at *; rw [h, he]
theorem Far.tok {s : List UInt8} {i j : Nat} {A : List Tok} {t : Tok} (h : Far s i A) (he : lexA (s.drop i) i = (lexA (s.drop j) j).map fun T => t :: T) : Far s j (A ++ [t]) := by
  unfold Far at *
  rw [h, he, Option.map_map]
  congr 1
  funext T
  simp
theorem Far.done {s : List UInt8} {i : Nat} {A : List Tok} (h : Far s i A) (hi : s.length ≤ i) : lexA s 0 = some A := by
  unfold Far at h
  rw [List.drop_eq_nil_of_le hi, lexA_nil] at h
  simpa using h
theorem Far.bad {s : List UInt8} {i : Nat} {A : List Tok} (h : Far s i A) (he : lexA (s.drop i) i = none) : lexA s 0 = none := by
  unfold Far at h
  rw [he] at h
  exact h
end Lex
def LexOut (s : List UInt8) (w : World) (e : Ending) (w' : World) : Prop := Below w.heap.size w w' ∧
  ((∃ T a cap, Lex.lexA s 0 = some T ∧ e = .returned (.tuple #[.slice a T.length cap, .nilIface]) ∧ Owns w' w.heap.size 108 2 a T.length cap (tokCells T)) ∨
   (Lex.lexA s 0 = none ∧ ∃ g, e = .returned (.tuple #[.slice none 0 0, .iface 109 (.pointer (some ⟨g, 0, none⟩))])))
set_option maxRecDepth 100000 in
set_option maxHeartbeats 4000000 in
theorem Lex_any (s : List UInt8) (w : World) (hs : s.length ≤ 3000) (hm : MarksAt w) :
    Calls Tryz.prog 44 #[.string (bstr s)] w (LexOut s w) := by
  have hat : ∀ k (h : k < (bstr s).size), ((bstr s)[k]'h).toNat = (s.getD k 0).toNat := fun k h => by rw [bstr_atL]
  have hsz : (bstr s).size = s.length := bstr_size s
  have HAT := Lib.hid hat; have HM := Lib.hid hm; have HSZ := Lib.hid hsz
  clear hat hm hsz
  have hbig : decide ((3000 : Int) < (s.length : Int)) = false := by rw [decide_eq_false_iff_not]; omega
  go_enter Tryz.func44, Tryz.ntmps44
  go_wp2_with fail
  go_loopw [4, 5, 6] (fun v4 v5 v6 wr => ∃ (i cap : Nat) (a : Option Addr) (A : List Tok), i ≤ s.length ∧ v5 = .int .i64 i ∧ v4 = .slice a A.length cap ∧ A.length ≤ i ∧ Hid (Owns wr w.heap.size 108 2 a A.length cap (tokCells A)) ∧ Hid (Lex.Far s i A) ∧ Hid (Below w.heap.size w wr)) (fun _ v5 _ _ => s.length - (intOf v5).toNat)
  case atStart => exact ⟨0, 0, none, [], by omega, rfl, rfl, by simp, Lib.hid (Owns.nil _ _ _ _), Lib.hid (Lex.Far.start s), Lib.hid (Below.refl _ _)⟩
  case round =>
    obtain ⟨i, cap, a, A, hi, rfl, rfl, hA, HO, HF, HB⟩ := hrel
    by_cases hlt : i < s.length
    · have hiI : (i : Int) < (s.length : Int) := by omega
      have hbi : i < (bstr s).size := by rw [HSZ.out]; exact hlt
      have hc := HAT.out i hbi
      have hcn : ∀ n : Nat, n < 256 → (s.getD i 0 = UInt8.ofNat n ↔ ((bstr s)[i]'hbi).toNat = n) := by
        intro n hn
        rw [hc]
        constructor
        · intro h; rw [h]; simp; omega
        · intro h; rw [← h]; simp
      have h32 := hcn 32 (by decide); have h10 := hcn 10 (by decide); have h9 := hcn 9 (by decide); have h35 := hcn 35 (by decide)
      change s.getD i 0 = 32 ↔ _ at h32
      change s.getD i 0 = 10 ↔ _ at h10
      change s.getD i 0 = 9 ↔ _ at h9
      change s.getD i 0 = 35 ↔ _ at h35
      clear hcn hc
      by_cases hbl : s.getD i 0 = 32 ∨ s.getD i 0 = 10 ∨ s.getD i 0 = 9
      · have hst := Lex.step_blank s i hlt hbl
        have HF2 := Lib.hid (HF.out.same hst)
        clear hst
        rw [h32, h10, h9] at hbl
        clear h32 h10 h9 h35
        by_cases k1 : ((bstr s)[i]'hbi).toNat = 32
        · have e1 : ((((bstr s)[i]'hbi).toNat : Int) == 32) = true := by rw [beq_iff_eq]; omega
          have K := Lib.hid k1; clear k1 hbl
          go_wp2_with fail
          go_roundw
          case rel => exact ⟨i + 1, cap, a, A, by omega, by go_num, rfl, by omega, HO, HF2, HB⟩
          case measure => simp [intOf]; omega
        · have e1 : ((((bstr s)[i]'hbi).toNat : Int) == 32) = false := by rw [beq_eq_false_iff_ne]; omega
          by_cases k2 : ((bstr s)[i]'hbi).toNat = 10
          · have e2 : ((((bstr s)[i]'hbi).toNat : Int) == 10) = true := by rw [beq_iff_eq]; omega
            have K := Lib.hid k2; clear k1 k2 hbl
            go_wp2_with fail
            go_roundw
            case rel => exact ⟨i + 1, cap, a, A, by omega, by go_num, rfl, by omega, HO, HF2, HB⟩
            case measure => simp [intOf]; omega
          · have e2 : ((((bstr s)[i]'hbi).toNat : Int) == 10) = false := by rw [beq_eq_false_iff_ne]; omega
            have e3 : ((((bstr s)[i]'hbi).toNat : Int) == 9) = true := by rw [beq_iff_eq]; omega
            clear k1 k2 hbl
            go_wp2_with fail
            go_roundw
            case rel => exact ⟨i + 1, cap, a, A, by omega, by go_num, rfl, by omega, HO, HF2, HB⟩
            case measure => simp [intOf]; omega
      · have hbl2 := hbl
        rw [h32, h10, h9] at hbl
        have e1 : ((((bstr s)[i]'hbi).toNat : Int) == 32) = false := by rw [beq_eq_false_iff_ne]; omega
        have e2 : ((((bstr s)[i]'hbi).toNat : Int) == 10) = false := by rw [beq_eq_false_iff_ne]; omega
        have e3 : ((((bstr s)[i]'hbi).toNat : Int) == 9) = false := by rw [beq_eq_false_iff_ne]; omega
        by_cases hno : s.getD i 0 = 35
        · have e4 : ((((bstr s)[i]'hbi).toNat : Int) == 35) = true := by rw [beq_iff_eq]; have := h35.1 hno; omega
          obtain ⟨hst, hpos⟩ := Lex.step_note s i hlt hno
          have HF2 := Lib.hid (HF.out.same hst)
          have hnl := Lex.note_lt (s.drop i)
          have hns := Lex.note_stop (s.drop i)
          have hnle := Lex.note_le (s.drop i)
          rw [List.length_drop] at hns hnle
          generalize Lex.note (s.drop i) = q at *
          have HNL := Lib.hid hnl; have HNS := Lib.hid hns
          clear hst hnl hns hbl hbl2 h32 h10 h9 h35 hno
          go_wp2_with fail
          go_loop [5] (fun v5 => ∃ k : Nat, i ≤ k ∧ k ≤ i + q ∧ v5 = .int .i64 k) (fun v5 => i + q - (intOf v5).toNat)
          case atStart => exact ⟨i, by omega, by omega, rfl⟩
          case round =>
            obtain ⟨k, hk1, hk2, rfl⟩ := hrel
            by_cases hkl : k < s.length
            · have hkI : (k : Int) < (s.length : Int) := by omega
              have hbk : k < (bstr s).size := by rw [HSZ.out]; exact hkl
              have hck := HAT.out k hbk
              by_cases hkq : k < i + q
              · have hne : (((bstr s)[k]'hbk).toNat) ≠ 10 := by
                  have := HNL.out (k - i) (by omega)
                  rw [Lex.drop_getD, show i + (k - i) = k from by omega] at this
                  intro hh
                  apply this
                  rw [hck] at hh
                  exact UInt8.toNat_inj.1 hh
                have f1 : ((((bstr s)[k]'hbk).toNat : Int) != 10) = true := by rw [bne_iff_ne]; omega
                clear hck hne
                go_wp2_with fail
                go_round
                case rel => exact ⟨k + 1, by omega, by omega, by go_num⟩
                case measure => simp [intOf]; omega
              · obtain rfl : k = i + q := by omega
                have hne : (((bstr s)[i + q]'hbk).toNat) = 10 := by
                  have := HNS.out (by omega)
                  rw [Lex.drop_getD] at this
                  rw [hck, this]; rfl
                have f1 : ((((bstr s)[i + q]'hbk).toNat : Int) != 10) = false := by rw [bne_eq_false_iff_eq]; omega
                have K := Lib.hid hne; clear hck hne
                go_wp2_with fail
                go_roundw
                case rel => exact ⟨i + q, cap, a, A, by omega, rfl, rfl, by omega, HO, HF2, HB⟩
                case measure => simp [intOf]; omega
            · have f1 : decide ((k : Int) < (s.length : Int)) = false := by rw [decide_eq_false_iff_not]; omega
              obtain rfl : k = i + q := by omega
              go_wp2_with fail
              go_roundw
              case rel => exact ⟨i + q, cap, a, A, by omega, rfl, rfl, by omega, HO, HF2, HB⟩
              case measure => simp [intOf]; omega
        · have e4 : ((((bstr s)[i]'hbi).toNat : Int) == 35) = false := by rw [beq_eq_false_iff_ne]; intro hh; exact hno (h35.2 (by omega))
          have hx : (bstr s).extract i s.length = bstr (s.drop i) := by rw [bstr_cutL, List.take_of_length_le (by rw [List.length_drop]; exact Nat.le_refl _)]
          have hnx := fun w hm => next_any (s.drop i) w (by rw [List.length_drop]; omega) (by rw [List.length_drop]; omega) hm
          have hnb := Lex.step_bad s i hlt hbl2 hno
          have hnt := Lex.step_tok s i hlt hbl2 hno
          have hnle := Lex.next_le (s.drop i)
          rw [List.length_drop] at hnle
          have hx2 : (bstr s).extract i (i + Lex.next (s.drop i)) = bstr ((s.drop i).take (Lex.next (s.drop i))) := by rw [bstr_cutL, Nat.add_sub_cancel_left]
          generalize Lex.next (s.drop i) = n at *
          have HNB := Lib.hid hnb; have HNT := Lib.hid hnt
          have HNX := Lib.hid (hnx wr (HM.out.below HB.out (Nat.le_refl _)))
          clear hnx hnb hnt hbl hbl2 h32 h10 h9 h35 hno
          by_cases hn0 : n = 0
          · have f1 : ((n : Int) == 0) = true := by rw [beq_iff_eq]; omega
            have hbad := HF.out.bad (HNB.out hn0)
            have HBAD := Lib.hid hbad
            have K := Lib.hid hn0; clear hn0 hbad
            go_wp2_with fail
            refine HNX.out.mono ?_
            rintro e w1 ⟨rfl, rfl⟩
            go_wp2_with fail
            go_ret2
            exact ⟨HB.out.alloc HB.out.size _, .inr ⟨HBAD.out, _, rfl⟩⟩
          · have f1 : ((n : Int) == 0) = false := by rw [beq_eq_false_iff_ne]; omega
            have hft := HF.out.tok (HNT.out hn0)
            have HFT := Lib.hid hft
            have K := Lib.hid hn0
            have hnpos : 0 < n := by omega
            clear hft hn0
            have hbs := HB.out.size
            have ho := HO.out
            have h63 : A.length + 1 ≤ maxLen := by unfold maxLen; omega
            go_wp2_with fail
            refine HNX.out.mono ?_
            rintro e w1 ⟨rfl, rfl⟩
            go_wp2_with (with_reducible refine wpList_pushW wr wr.heap.size rfl rfl _ _ 99 rfl w.heap.size 108 (.agg #[.string ByteArray.empty, .int .i64 0]) 2 24 Tryz.underlying99 infoTok rfl (by decide) a A.length cap _ rfl ho [.string (bstr ((s.drop i).take n)), .int .i64 (i : Nat)] rfl (by simp [Value.oneCell']) rfl h63 (by omega) hbs ?_; intro a' cap' w' hown' hgrow hloc hsz' hex)
            have hlen : (A ++ [(((s.drop i).take n, i) : Tok)]).length = A.length + 1 := by simp
            have HLEN := Lib.hid hlen; clear hlen
            go_roundw
            case rel => exact ⟨i + n, cap', a', A ++ [((s.drop i).take n, i)], by omega, by go_num, by rw [HLEN.out], by rw [HLEN.out]; omega, Lib.hid (by rw [HLEN.out, tokCells_snoc]; exact hown'), HFT, Lib.hid (below_blk HB.out ho (Nat.le_refl _) hbs hgrow)⟩
            case measure => simp [intOf]; omega
    · obtain rfl : i = s.length := by omega
      have hd : decide ((s.length : Int) < (s.length : Int)) = false := by simp
      have hfin := HF.out.done (Nat.le_refl _)
      have HFIN := Lib.hid hfin; clear hfin
      go_wp2_with fail
      go_ret2
      exact ⟨HB.out, .inl ⟨A, a, cap, HFIN.out, rfl, HO.out⟩⟩
end Go.Proofs.YtlpkebngehmimaaGreatDoor
end
