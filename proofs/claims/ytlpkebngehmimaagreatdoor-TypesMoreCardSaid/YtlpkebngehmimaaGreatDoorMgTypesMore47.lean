/- A struct more at the end, of another name, that has parts of all those ahead: in plain words. -/
import Derived.Lib.Index
import Derived.Test.YtlpkebngehmimaaGreatDoorMgTypesMore46
section
/- A struct more at the end, of another name, that has parts of all those ahead: in plain words. -/
namespace Go.Proofs.YtlpkebngehmimaaGreatDoor
set_option linter.unusedVariables false
set_option linter.unusedSimpArgs false
namespace Tm
open Ex
/-! ## names that don't have 'zz' -/
def NoZ (w : Wd) : Prop := ∀ p q, w ≠ p ++ 122 :: 122 :: q
theorem noZ_of_index : ∀ (s : List UInt8), Lib.index s [122, 122] = -1 → NoZ s
  | [], _, p, q => by cases p <;> simp
  | c :: s, h, p, q => by
    intro e
    unfold Lib.index at h
    by_cases hp : ([122, 122] : List UInt8).isPrefixOf (c :: s) = true
    · rw [if_pos hp] at h; cases h
    · rw [if_neg hp] at h
      have hge := Lib.index_ge s [122, 122]
      have h1 : Lib.index s [122, 122] = -1 := by
        by_cases h2 : (Lib.index s [122, 122] == -1) = true
        · exact eq_of_beq h2
        · rw [if_neg h2] at h; omega
      cases p with
      | nil =>
        rw [List.nil_append] at e
        rw [e] at hp
        exact hp (by simp [List.isPrefixOf])
      | cons a p =>
        rw [List.cons_append] at e
        injection e with e1 e2
        exact noZ_of_index s h1 p q e2
theorem NoZ.part {s p x q : Wd} (h : NoZ s) (e : s = p ++ x ++ q) : NoZ x := by
  intro a b hx
  exact h (p ++ a) (b ++ q) (by rw [e, hx]; simp)
theorem toks_part : ∀ (n : Nat) (l : List UInt8) (i : Nat) (T : List Tok), l.length ≤ n → Lex.lexA l i = some T → ∀ t ∈ T, ∃ p q, l = p ++ t.1 ++ q := by
  intro n
  induction n with
  | zero =>
    intro l i T h hT
    obtain rfl := List.eq_nil_of_length_eq_zero (Nat.le_zero.1 h)
    rw [Lex.lexA_nil] at hT
    cases hT
    exact fun t ht => by cases ht
  | succ n ih =>
    intro l i T h hT
    cases l with
    | nil => rw [Lex.lexA_nil] at hT; cases hT; exact fun t ht => by cases ht
    | cons c l =>
      rw [List.length_cons] at h
      have behind : ∀ (k : Nat) (t : Tok), (∃ p q, (c :: l).drop k = p ++ t.1 ++ q) → ∃ p q, c :: l = p ++ t.1 ++ q := by
        rintro k t ⟨p, q, e⟩
        refine ⟨(c :: l).take k ++ p, q, ?_⟩
        have h2 := List.take_append_drop k (c :: l)
        rw [e] at h2
        refine h2.symm.trans ?_
        simp only [List.append_assoc]
      by_cases h1 : c = 32 ∨ c = 10 ∨ c = 9
      · rw [Lex.lexA_blank c l i h1] at hT
        intro t ht
        exact behind 1 t (ih l _ T (by omega) hT t ht)
      · by_cases h2 : c = 35
        · subst h2
          rw [Lex.lexA_note] at hT
          have hp := Lex.note_pos l
          intro t ht
          exact behind _ t (ih _ _ T (by rw [List.length_drop, List.length_cons]; omega) hT t ht)
        · by_cases h3 : Lex.next (c :: l) = 0
          · rw [Lex.lexA_bad c l i h1 h2 h3] at hT; cases hT
          · rw [Lex.lexA_tok c l i h1 h2 h3, Option.map_eq_some_iff] at hT
            obtain ⟨T', hT', rfl⟩ := hT
            intro t ht
            rcases List.mem_cons.1 ht with rfl | ht
            · exact ⟨[], (c :: l).drop (Lex.next (c :: l)), (List.take_append_drop _ _).symm⟩
            · exact behind _ t (ih _ _ T' (by rw [List.length_drop, List.length_cons]; omega) hT' t ht)
theorem names_noZ {s : List UInt8} {T : List Tok} {l : List Ty} {E n : Nat} (hs : NoZ s) (hT : Lex.lexA s 0 = some T) (h : Tys E n T l) : ∀ t ∈ l, NoZ t.name := by
  have h1 : TkP NoZ T := fun t ht _ => by
    obtain ⟨p, q, e⟩ := toks_part s.length s 0 T (Nat.le_refl _) hT t ht
    exact hs.part e
  intro t ht
  exact (tys_all h h1 t ht).1.2
/-! ## the struct -/
def zzN (i : Nat) : Wd := 122 :: 122 :: Num.dec i
def zzH (i : Nat) (w : Wd) : Hd := ⟨0, .struct w, zzN i, some (.name 0 [110]), .none⟩
def zzIts : Nat → List Wd → Its
  | _, [] => .nil
  | i, w :: l => .cons (zzH i w) (zzIts (i + 1) l)
def nH : Hd := ⟨0, .scalar wU8, [110], none, .none⟩
def zzTy (l : List Wd) : Ty := ⟨[122, 122], 0, .cons nH (zzIts 0 l)⟩
theorem zzN_ok : ∀ i, i < 8 → NameOk (zzN i) := by unfold NameOk WordOk; decide
theorem zzN_inj : ∀ i, i < 8 → ∀ j, j < 8 → zzN i = zzN j → i = j := by decide
theorem zzN_n : ∀ i, i < 8 → zzN i ≠ [110] := by decide
theorem nX_fine : FineX (.name 0 [110]) := ⟨⟨by decide, by decide, by decide, 110, [], rfl, by decide⟩, by decide⟩
theorem zzH_fine {i : Nat} {w : Wd} (hi : i < 8) (hw : NameOk w) : FineH (zzH i w) :=
  ⟨hw, zzN_ok i hi, fun c hc => (by injection hc with hc; subst hc; exact ⟨nX_fine, rfl⟩), trivial, fun h => (by cases h), fun h => absurd rfl h⟩
theorem nH_fine : FineH nH := ⟨(show (kindOf wU8).isSome = true by decide), (show NameOk [110] by unfold NameOk WordOk; decide), fun c hc => (by cases hc), trivial, fun h => (by cases h), fun h => absurd rfl h⟩
theorem zzIts_fine : ∀ (l : List Wd) (i : Nat), i + l.length ≤ 8 → (∀ w ∈ l, NameOk w) → FineI (zzIts i l)
  | [], _, _, _ => trivial
  | w :: l, i, h, hw => by
    rw [List.length_cons] at h
    exact ⟨zzH_fine (by omega) (hw w (by simp)), zzIts_fine l (i + 1) (by omega) fun u hu => hw u (by simp [hu])⟩
theorem zzTy_fine {l : List Wd} (h : l.length ≤ 8) (hw : ∀ w ∈ l, NameOk w) : FineT (zzTy l) :=
  ⟨(show NameOk [122, 122] by unfold NameOk WordOk; decide), nH_fine, zzIts_fine l 0 (by omega) hw⟩
theorem zzIts_fit : ∀ (l : List Wd) (i n : Nat), n + l.length ≤ 16 → Fit 1 n (zzIts i l)
  | [], _, _, _ => trivial
  | w :: l, i, n, h => by
    rw [List.length_cons] at h
    exact ⟨by omega, zzIts_fit l (i + 1) (n + 1) (by omega)⟩
theorem zzTy_fit {l : List Wd} (h : l.length ≤ 8) : Fit 1 0 (zzTy l).items := ⟨by omega, zzIts_fit l 0 1 (by omega)⟩
/-! ## its text -/
def zzLine (i : Nat) (w : Wd) : Wd := w ++ [32, 122, 122] ++ Num.dec i ++ [91, 110, 93, 59, 10]
def zzHead : Wd := wStruct ++ [32, 122, 122, 32, 123, 10, 117, 56, 32, 110, 59, 10]
def zzLines (i : Nat) : List Wd → Wd
  | [] => []
  | w :: l => zzLine i w ++ zzLines (i + 1) l
theorem zzLine_eq (i : Nat) (w : Wd) : zzLine i w = prH 0 (zzH i w) := by
  unfold zzLine prH zzH zzN pad prTail prX pr kndW
  simp
theorem zzLines_eq : ∀ (l : List Wd) (i : Nat), zzLines i l = prI 0 (zzIts i l)
  | [], i => rfl
  | w :: l, i => by
    show zzLine i w ++ zzLines (i + 1) l = prH 0 (zzH i w) ++ prI 0 (zzIts (i + 1) l)
    rw [zzLine_eq, zzLines_eq l]
theorem zz_texts {l : List Wd} (h : l.length ≤ 8) (hw : ∀ w ∈ l, NameOk w) : texts (zzHead ++ zzLines 0 l ++ [125, 10]) 0 = some (ptTs [zzTy l]) := by
  have hf := zzTy_fine h hw
  have e : zzHead ++ zzLines 0 l ++ [125, 10] = wStruct ++ 32 :: ([122, 122] ++ 32 :: 123 :: 10 :: (prI 0 (zzTy l).items ++ 125 :: 10 :: [])) := by
    rw [zzLines_eq]
    show _ = wStruct ++ 32 :: ([122, 122] ++ 32 :: 123 :: 10 :: ((prH 0 nH ++ prI 0 (zzIts 0 l)) ++ 125 :: 10 :: []))
    rw [show prH 0 nH = [117, 56, 32, 110, 59, 10] from rfl]
    unfold zzHead
    simp
  rw [e, texts_wd (kept_ok (by decide)) (sep_nw 32 _ (by decide)), texts_blank, texts_wd (x := [122, 122]) (by unfold WordOk; decide) (sep_nw 32 _ (by decide)), texts_blank, texts_oc, texts_nl, texts_prI (zzTy l).items hf.2, texts_cc, texts_nl]
  show some _ = some _
  congr 1
  show [wStruct] ++ _ = _
  unfold ptTs ptT
  simp
  rfl
theorem zzLines_len : ∀ (l : List Wd) (i : Nat), i + l.length ≤ 8 → (∀ w ∈ l, w.length ≤ 12) → (zzLines i l).length ≤ 21 * l.length
  | [], _, _, _ => by simp [zzLines]
  | w :: l, i, h, hw => by
    rw [List.length_cons] at h
    have h1 := zzLines_len l (i + 1) (by omega) fun u hu => hw u (by simp [hu])
    have h2 := hw w (by simp)
    have h3 : ∀ i, i < 8 → (Num.dec i).length = 1 := by decide
    have h4 := h3 i (by omega)
    show (zzLine i w ++ zzLines (i + 1) l).length ≤ _
    unfold zzLine
    simp only [List.length_append, List.length_cons, List.length_nil]
    omega
theorem zzLines_snoc : ∀ (l : List Wd) (i : Nat) (w : Wd), zzLines i (l ++ [w]) = zzLines i l ++ zzLine (i + l.length) w
  | [], i, w => by simp [zzLines]
  | u :: l, i, w => by
    show zzLine i u ++ zzLines (i + 1) (l ++ [w]) = zzLine i u ++ zzLines (i + 1) l ++ _
    rw [zzLines_snoc l, List.append_assoc, List.length_cons]
    congr 3
    omega
/-! ## it is as right -/
theorem zzIts_rules : ∀ (l : List Wd) (i : Nat), ∀ s ∈ (zzIts i l).row, s.rule = .none
  | [], _, s, hs => by cases hs
  | w :: l, i, s, hs => by
    rcases List.mem_cons.1 hs with rfl | hs
    · rfl
    · exact zzIts_rules l (i + 1) s hs
theorem rulesA_none {R : List Sk} : ∀ (l : List Sk) (i : Nat), (∀ s ∈ l, s.rule = .none) → rulesA R i l = none
  | [], _, _ => rfl
  | s :: l, i, h => by
    unfold rulesA rule1
    rw [h s (by simp)]
    exact rulesA_none l (i + 1) fun u hu => h u (by simp [hu])
theorem cyc_none {R : List Sk} : ∀ (l : List Sk) (i : Nat), (∀ s ∈ l, s.rule = .none) → cyc R i l = none
  | [], _, _ => rfl
  | s :: l, i, h => by
    unfold cyc
    rw [h s (by simp)]
    exact cyc_none l (i + 1) fun u hu => h u (by simp [hu])
theorem rulesE_none {R : List Sk} (h : ∀ s ∈ R, s.rule = .none) : rulesE R = none := by
  unfold rulesE
  rw [rulesA_none R 0 h]
  exact cyc_none R 0 h
theorem zzTy_rules (l : List Wd) : rulesE (zzTy l).items.row = none := rulesE_none fun s hs => by
  rcases List.mem_cons.1 hs with rfl | hs
  · rfl
  · exact zzIts_rules l 0 s hs
theorem zzIts_chk {ts : List Wd} : ∀ (l : List Wd) (i : Nat) (ns : List Wd), i + l.length ≤ 8 → (∀ w ∈ l, w ∈ ts) → (∀ x ∈ ns, x = [110] ∨ ∃ j, j < i ∧ x = zzN j) → ∃ ns', chkL ts (zzIts i l) ns [[110]] = .ok ns' [[110]]
  | [], i, ns, _, _, _ => ⟨ns, rfl⟩
  | w :: l, i, ns, h, hts, hns => by
    rw [List.length_cons] at h
    have h1 : ns.contains (zzN i) = false := by
      rw [Bool.eq_false_iff]
      intro hc
      rw [List.contains_iff_mem] at hc
      rcases hns _ hc with e | ⟨j, hj, e⟩
      · exact zzN_n i (by omega) e
      · have := zzN_inj i (by omega) j (by omega) e; omega
    have h2 : lacks ts (zzH i w).k = false := by
      show (!ts.contains w) = false
      rw [List.contains_iff_mem.2 (hts w (by simp))]
      rfl
    obtain ⟨ns', h3⟩ := zzIts_chk l (i + 1) (zzN i :: ns) (by omega) (fun u hu => hts u (by simp [hu])) (by
      intro x hx
      rcases List.mem_cons.1 hx with rfl | hx
      · exact .inr ⟨i, by omega, rfl⟩
      · rcases hns x hx with e | ⟨j, hj, e⟩
        · exact .inl e
        · exact .inr ⟨j, by omega, e⟩)
    refine ⟨ns', ?_⟩
    show chkL ts (.cons (zzH i w) (zzIts (i + 1) l)) ns [[110]] = _
    unfold chkL
    rw [show (zzH i w).name = zzN i from rfl, h1, h2]
    exact h3
theorem zzTy_chk {ts : List Wd} (l : List Wd) (h : l.length ≤ 8) (hts : ∀ w ∈ l, w ∈ ts) : ∃ ns', chkL ts (zzTy l).items [] [] = .ok ns' [[110]] := by
  obtain ⟨ns', h1⟩ := zzIts_chk (ts := ts) l 0 [[110]] (by omega) hts (fun x hx => .inl (by simpa using hx))
  refine ⟨ns', ?_⟩
  show chkL ts (.cons nH (zzIts 0 l)) [] [] = _
  unfold chkL
  exact h1
theorem chk_append {L : List Wd} (hL : L.length ≤ 8) : ∀ (l : List Ty) (ts : List Wd), [122, 122] ∉ ts → (∀ t ∈ l, t.name ≠ [122, 122]) → (∀ w ∈ L, w ∈ ts ∨ ∃ t ∈ l, t.name = w) → chk ts (l ++ [zzTy L]) = chk ts l
  | [], ts, h1, _, h3 => by
    obtain ⟨ns', h4⟩ := zzTy_chk (ts := ts) L hL fun w hw => by
      rcases h3 w hw with h | ⟨t, ht, _⟩
      · exact h
      · cases ht
    have h5 : ts.contains (zzTy L).name = false := by
      rw [Bool.eq_false_iff]
      intro hc
      rw [List.contains_iff_mem] at hc
      exact h1 hc
    rw [List.nil_append]
    unfold chk
    rw [h5, h4, zzTy_rules]
    rfl
  | t :: l, ts, h1, h2, h3 => by
    rw [List.cons_append]
    unfold chk
    have ih := chk_append hL l (t.name :: ts) (by
      intro h
      rcases List.mem_cons.1 h with h | h
      · exact h2 t (by simp) h.symm
      · exact h1 h) (fun u hu => h2 u (by simp [hu])) (fun w hw => by
      rcases h3 w hw with h | ⟨u, hu, e⟩
      · exact .inl (List.mem_cons_of_mem _ h)
      · rcases List.mem_cons.1 hu with rfl | hu
        · exact .inl (by rw [← e]; simp)
        · exact .inr ⟨u, hu, e⟩)
    rw [ih]
/-! ## read -/
def zzText (s : Wd) (L : List Wd) : Wd := s ++ 10 :: (zzHead ++ zzLines 0 L ++ [125, 10])
theorem sameTs_refl_name {l m : List Ty} (h : SameTs l m) : l.length = m.length := by
  induction h with
  | nil => rfl
  | cons _ _ ih => simp [ih]
theorem sameTs_append {l m l' m' : List Ty} (h : SameTs l m) (h' : SameTs l' m') : SameTs (l ++ l') (m ++ m') := by
  induction h with
  | nil => exact h'
  | cons a _ ih => exact .cons a ih
theorem more_read {s : List UInt8} {T : List Tok} {x : List Ty} (h1 : Lex.lexA s 0 = some T) (h2 : Tys s.length 0 T x) (h3 : Wordy T) (h8 : x.length < 8) (hz : NoZ s) : ∃ S z, Lex.lexA (zzText s (x.map (·.name))) 0 = some S ∧ Tys (zzText s (x.map (·.name))).length 0 S z ∧ chk [] z = chk [] x := by
  have hfine := h2.fine h3
  have hnm : ∀ w ∈ x.map (·.name), NameOk w := by
    intro w hw
    rw [List.mem_map] at hw
    obtain ⟨t, ht, rfl⟩ := hw
    exact (hfine t ht).1
  have hlen : (x.map (·.name)).length ≤ 8 := by rw [List.length_map]; omega
  have hno := names_noZ hz h1 h2
  obtain ⟨L, hL⟩ : ∃ L, L = x.map (·.name) := ⟨_, rfl⟩
  rw [← hL] at hnm hlen ⊢
  obtain ⟨b, hb⟩ : ∃ b, b = zzHead ++ zzLines 0 L ++ [125, 10] := ⟨_, rfl⟩
  have ht := zz_texts hlen hnm
  rw [← hb] at ht
  unfold zzText
  rw [← hb]
  have hj := Lex.lex_join b s.length s 0 T (Nat.le_refl _) h1
  rw [texts_shift b 0 (0 + s.length + 1)] at ht
  unfold texts at ht
  rw [Option.map_eq_some_iff] at ht
  obtain ⟨Tb, e1, e2⟩ := ht
  rw [e1] at hj
  obtain ⟨x', g1, g2⟩ := h2.shift (E' := (s ++ 10 :: b).length) (S := T) rfl
  have hf := zzTy_fine hlen hnm
  have l1 := sameTs_refl_name g1
  obtain ⟨y', g3, g4⟩ := Tys.make (E := (s ++ 10 :: b).length) (l := [zzTy L]) (n := x'.length) (by simp; omega) (fun t ht => by rw [List.mem_singleton] at ht; subst ht; exact ⟨hf, zzTy_fit hlen⟩) Tb e2
  refine ⟨T ++ Tb, x' ++ y', by simpa using hj, Tys.append g2 (by rw [Nat.zero_add]; exact g4), ?_⟩
  rw [chk_same (sameTs_append g1 g3) (by
    intro t ht
    rcases List.mem_append.1 ht with ht | ht
    · exact hfine t ht
    · rw [List.mem_singleton] at ht; subst ht; exact hf)]
  refine chk_append hlen x [] (fun h => by cases h) (fun t ht e => hno t ht [] [] (by rw [e]; rfl)) (fun w hw => .inr ?_)
  rw [hL, List.mem_map] at hw
  exact hw
end Tm
end Go.Proofs.YtlpkebngehmimaaGreatDoor
end
