/- The plain law of ex: the words of a line, however many blanks stand between. No program in sight. -/
import Derived.Lib.FieldsP
import Derived.Lib.Replace
import Derived.Lib.IndexBytes
namespace Go.Proofs.YtnmbakibiaedhaaDoor.Ex
open Go Go.Lib
def wgo : List UInt8 → List UInt8 → List (List UInt8)
  | cur, [] => if cur = [] then [] else [cur]
  | cur, c :: l => if c = 32 then (if cur = [] then wgo [] l else cur :: wgo [] l) else wgo (cur ++ [c]) l
def words (l : List UInt8) : List (List UInt8) := wgo [] l
theorem wgo_nob : ∀ (X l cur : List UInt8), (∀ c ∈ X, c ≠ 32) → wgo cur (X ++ l) = wgo (cur ++ X) l
  | [], l, cur, _ => by simp
  | c :: X, l, cur, h => by
    rw [List.cons_append, wgo, if_neg (h c (by simp)), wgo_nob X l _ fun d hd => h d (by simp [hd]), List.append_assoc]
    rfl
theorem wgo_blank (cur l : List UInt8) : wgo cur (32 :: l) = (if cur = [] then wgo [] l else cur :: wgo [] l) := by rw [wgo, if_pos rfl]
theorem wgo_blanks (cur l : List UInt8) : ∀ k, wgo cur (List.replicate (k + 1) 32 ++ l) = wgo cur (32 :: l)
  | 0 => rfl
  | k + 1 => by
    have ih := wgo_blanks [] l k
    rw [List.replicate_succ, List.cons_append, wgo_blank, wgo_blank, ih, wgo_blank, if_pos rfl]
theorem wgo_tail (k : Nat) : ∀ (l cur : List UInt8), wgo cur (l ++ List.replicate k 32) = wgo cur l
  | [], cur => by
    have h0 : wgo [] (List.replicate k 32) = [] := by
      cases k with
      | zero => rfl
      | succ k => have := wgo_blanks [] [] k; rw [List.append_nil] at this; rw [this, wgo_blank, if_pos rfl]; rfl
    cases k with
    | zero => simp
    | succ k =>
      rw [List.nil_append]
      have := wgo_blanks cur [] k
      rw [List.append_nil] at this
      rw [this, wgo_blank]
      by_cases hc : cur = [] <;> simp [wgo, hc]
  | c :: l, cur => by
    rw [List.cons_append, wgo, wgo, wgo_tail k l, wgo_tail k l]
def more (k : Nat) (l : List UInt8) : List UInt8 := l.flatMap fun c => if c = 32 then List.replicate (k + 1) 32 else [c]
theorem wgo_more (k : Nat) : ∀ (l cur : List UInt8), wgo cur (more k l) = wgo cur l
  | [], cur => rfl
  | c :: l, cur => by
    have ih := wgo_more k l
    unfold more at ih ⊢
    rw [List.flatMap_cons]
    by_cases hc : c = 32
    · rw [if_pos hc, wgo_blanks, hc, wgo_blank, wgo_blank, ih]
    · rw [if_neg hc, List.singleton_append, wgo, if_neg hc, wgo, if_neg hc, ih]
theorem words_more (k : Nat) (l : List UInt8) : words (List.replicate (k + 1) 32 ++ more k l ++ List.replicate (k + 1) 32) = words l := by
  unfold words
  rw [wgo_tail, wgo_blanks, wgo_blank, if_pos rfl, wgo_more]
theorem wgo_has : ∀ (l cur : List UInt8), (∀ c ∈ cur, c ≠ 32) → ∀ x ∈ wgo cur l, x ≠ [] ∧ (∀ c ∈ x, c ≠ 32) ∧ x.length ≤ cur.length + l.length
  | [], cur, h, x, hx => by
    rw [wgo] at hx
    by_cases hc : cur = []
    · rw [if_pos hc] at hx; cases hx
    · rw [if_neg hc] at hx
      rw [List.mem_singleton.1 hx]
      exact ⟨hc, h, by simp⟩
  | c :: l, cur, h, x, hx => by
    rw [wgo] at hx
    by_cases hc : c = 32
    · rw [if_pos hc] at hx
      by_cases hn : cur = []
      · rw [if_pos hn] at hx
        have := wgo_has l [] (by simp) x hx
        refine ⟨this.1, this.2.1, ?_⟩
        have := this.2.2
        simp at this ⊢
        omega
      · rw [if_neg hn] at hx
        rcases List.mem_cons.1 hx with hx | hx
        · rw [hx]; exact ⟨hn, h, by simp⟩
        · have := wgo_has l [] (by simp) x hx
          refine ⟨this.1, this.2.1, ?_⟩
          have := this.2.2
          simp at this ⊢
          omega
    · rw [if_neg hc] at hx
      have := wgo_has l (cur ++ [c]) (by intro d hd; rcases List.mem_append.1 hd with hd | hd; exact h d hd; rw [List.mem_singleton.1 hd]; exact hc) x hx
      refine ⟨this.1, this.2.1, ?_⟩
      have := this.2.2
      simp at this ⊢
      omega
theorem wgo_count : ∀ (l cur : List UInt8), (wgo cur l).length ≤ (if cur = [] then 0 else 1) + l.length
  | [], cur => by
    rw [wgo]; split <;> simp
  | c :: l, cur => by
    rw [wgo]
    by_cases hc : c = 32
    · rw [if_pos hc]
      have := wgo_count l []
      rw [if_pos rfl] at this
      by_cases hn : cur = []
      · rw [if_pos hn, if_pos hn]; simp; omega
      · rw [if_neg hn, if_neg hn]; simp; omega
    · rw [if_neg hc]
      have := wgo_count l (cur ++ [c])
      rw [if_neg (by simp)] at this
      simp
      split <;> omega
/-- what ReplaceAll makes of it -/
theorem idx32 : ∀ l : List UInt8, ((∀ c ∈ l, c ≠ 32) ∧ index l [32] = -1) ∨ ∃ A B, l = A ++ 32 :: B ∧ (∀ c ∈ A, c ≠ 32) ∧ index l [32] = (A.length : Nat)
  | [] => .inl ⟨by simp, rfl⟩
  | b :: l => by
    by_cases hb : b = 32
    · refine .inr ⟨[], l, by rw [hb]; rfl, by simp, ?_⟩
      rw [hb]
      simp [index]
    · have hp : ([32] : List UInt8).isPrefixOf (b :: l) = false := by
        simp only [List.isPrefixOf, Bool.and_true]
        rw [beq_eq_false_iff_ne]
        exact fun e => hb e.symm
      rcases idx32 l with ⟨h1, h2⟩ | ⟨A, B, h1, h2, h3⟩
      · left
        refine ⟨by intro c hc; rcases List.mem_cons.1 hc with e | e; rw [e]; exact hb; exact h1 c e, ?_⟩
        unfold index
        rw [hp, h2]
        rfl
      · right
        refine ⟨b :: A, B, by rw [h1]; rfl, by intro c hc; rcases List.mem_cons.1 hc with e | e; rw [e]; exact hb; exact h2 c e, ?_⟩
        unfold index
        rw [hp, h3]
        have : (((A.length : Nat) : Int) == -1) = false := by rw [beq_eq_false_iff_ne]; omega
        rw [this]
        simp
theorem flat_nob (by_ : List UInt8) : ∀ l : List UInt8, (∀ c ∈ l, c ≠ 32) → (l.flatMap fun c => if c = 32 then by_ else [c]) = l
  | [], _ => rfl
  | c :: l, h => by rw [List.flatMap_cons, if_neg (h c (by simp)), flat_nob by_ l fun d hd => h d (by simp [hd])]; rfl
theorem count_nob (l : List UInt8) (h : ∀ c ∈ l, c ≠ 32) : l.count 32 = 0 := List.count_eq_zero.2 fun hm => h 32 hm rfl
theorem drop_at (A B : List UInt8) : (A ++ 32 :: B).drop (A.length + 1) = B := by
  rw [List.drop_append]
  simp
theorem countFrom_one : ∀ (f : Nat) (l : List UInt8), l.length < f → countFrom [32] f l = l.count 32
  | 0, l, h => by omega
  | f + 1, l, h => by
    rcases idx32 l with ⟨h1, h2⟩ | ⟨A, B, h1, h2, h3⟩
    · rw [countFrom, h2, count_nob l h1]; rfl
    · have hn : ¬ (((A.length : Nat) : Int) == -1) = true := by rw [beq_iff_eq]; omega
      rw [countFrom, h3, if_neg hn, h1]
      have hl : B.length < f := by rw [h1] at h; simp at h; omega
      rw [show ((A.length : Nat) : Int).toNat + ([32] : List UInt8).length = A.length + 1 from rfl, drop_at, countFrom_one f B hl, List.count_append, count_nob A h2]
      simp
      omega
theorem count_one (l : List UInt8) : count l [32] = l.count 32 := countFrom_one _ _ (by omega)
theorem replaceK_one (by_ : List UInt8) : ∀ (k : Nat) (l : List UInt8), l.count 32 ≤ k → replaceK [32] by_ k l = l.flatMap fun c => if c = 32 then by_ else [c]
  | 0, l, h => by
    rw [replaceK, flat_nob]
    intro c hc e
    have := List.count_pos_iff.2 (e ▸ hc)
    omega
  | k + 1, l, h => by
    rcases idx32 l with ⟨h1, h2⟩ | ⟨A, B, h1, h2, h3⟩
    · rw [replaceK, h2, flat_nob _ _ h1]; rfl
    · have hn : ¬ (((A.length : Nat) : Int) == -1) = true := by rw [beq_iff_eq]; omega
      have hc : B.count 32 ≤ k := by rw [h1, List.count_append, count_nob A h2] at h; simp at h; omega
      rw [replaceK, h3, if_neg hn, h1]
      rw [show ((A.length : Nat) : Int).toNat + ([32] : List UInt8).length = A.length + 1 from rfl, drop_at, replaceK_one by_ k B hc, show ((A.length : Nat) : Int).toNat = A.length from rfl, List.take_left, List.flatMap_append, flat_nob _ _ h2, List.flatMap_cons, if_pos rfl, List.append_assoc]
theorem replaceAll_one (k : Nat) (l : List UInt8) : replaceAll l [32] (List.replicate (k + 1) 32) = more k l := by
  unfold replaceAll replace replaceNum more
  by_cases he : ([32] : List UInt8) == List.replicate (k + 1) 32
  · rw [if_pos he]
    have := eq_of_beq he
    rw [← this]
    induction l with
    | nil => rfl
    | cons c l ih =>
      rw [List.flatMap_cons, ← ih]
      by_cases hc : c = 32
      · rw [if_pos hc, hc]; rfl
      · rw [if_neg hc]; rfl
  · rw [if_neg he, if_pos (by left; decide), count_one, replaceK_one _ _ _ (Nat.le_refl _)]
theorem more_length (k : Nat) : ∀ l : List UInt8, (more k l).length ≤ (k + 1) * l.length
  | [] => by simp [more]
  | c :: l => by
    have ih := more_length k l
    unfold more at ih ⊢
    rw [List.flatMap_cons, List.length_append, List.length_cons, Nat.mul_succ]
    by_cases hc : c = 32
    · rw [if_pos hc, List.length_replicate]; omega
    · rw [if_neg hc, List.length_singleton]; omega
/-- what FieldsFunc makes of it -/
theorem getBang (s : ByteArray) (i : Nat) : s.get! i = s.data.toList.getD i 0 := by
  cases s with
  | mk d =>
    show d[i]! = d.toList.getD i 0
    rw [List.getD_eq_getElem?_getD, Array.getElem?_toList, getElem!_def]
    cases d[i]? <;> rfl
theorem decN_yes (n b0 b1 b2 b3 : Nat) : (decodeN n b0 b1 b2 b3).1 = 32 → b0 = 32 ∧ (decodeN n b0 b1 b2 b3).2 = 1 := by
  unfold decodeN
  repeat' split
  all_goals (intro h; simp only at h ⊢)
  all_goals first | omega | (refine ⟨h, trivial⟩)
theorem decN_no (n b0 b1 b2 b3 j : Nat) : (decodeN n b0 b1 b2 b3).1 ≠ 32 → j < (decodeN n b0 b1 b2 b3).2 → (j = 0 ∧ b0 ≠ 32) ∨ (j = 1 ∧ b1 ≠ 32) ∨ (j = 2 ∧ b2 ≠ 32) ∨ (j = 3 ∧ b3 ≠ 32) := by
  unfold decodeN
  repeat' split
  all_goals (intro h h2; simp only at h h2; omega)
theorem dec_yes (s : ByteArray) (pos : Nat) (h : ((Utf8.decode s pos).1 == 32) = true) : s.data.toList.getD pos 0 = 32 ∧ (Utf8.decode s pos).2 = 1 := by
  have h := beq_iff_eq.1 h
  rw [decode_at] at h ⊢
  have h0 := decN_yes _ _ _ _ _ h
  refine ⟨?_, h0.2⟩
  rw [← getBang]
  exact UInt8.toNat_inj.1 h0.1
theorem dec_no (s : ByteArray) (pos : Nat) (h : ((Utf8.decode s pos).1 == 32) = false) : ∀ c ∈ (s.data.toList.drop pos).take (Utf8.decode s pos).2, c ≠ 32 := by
  intro c hc e
  obtain ⟨j, hj, hcj⟩ := List.mem_iff_getElem.1 hc
  rw [List.getElem_take, List.getElem_drop] at hcj
  rw [List.length_take, List.length_drop] at hj
  have hg : (s.get! (pos + j)).toNat = 32 := by
    rw [getBang, List.getD_eq_getElem?_getD, List.getElem?_eq_getElem (by omega), Option.getD_some, hcj, e]
    rfl
  have hj2 : j < (Utf8.decode s pos).2 := by omega
  have h := beq_eq_false_iff_ne.1 h
  rw [decode_at] at h hj2
  rcases decN_no _ _ _ _ _ j h hj2 with ⟨rfl, h3⟩ | ⟨rfl, h3⟩ | ⟨rfl, h3⟩ | ⟨rfl, h3⟩
  · exact h3 (by rw [Nat.add_zero] at hg; exact hg)
  all_goals exact h3 hg
theorem spansP_eq (s : ByteArray) : ∀ (f pos : Nat) (st : Option Nat) (acc : List (Nat × Nat)), s.size ≤ pos + f → pos ≤ s.size → (∀ a, st = some a → a < pos) →
    acc.map (fun p => pieceU s.data.toList p.1 p.2) ++ wgo (openPiece s.data.toList st pos) (s.data.toList.drop pos) = (closeSpans s (spansFromP (fun r => r == 32) s f pos st acc)).map (fun p => pieceU s.data.toList p.1 p.2)
  | 0, pos, st, acc, h, hp, hst => by
    obtain rfl : pos = s.size := by omega
    have hd : s.data.toList.drop s.size = [] := List.drop_eq_nil_of_le (by rw [← size_eq]; exact Nat.le_refl _)
    rw [hd]
    cases st with
    | none => simp [spansFromP, closeSpans, openPiece, wgo]
    | some a =>
      have := pieceU_ne s.data.toList a s.size (hst a rfl) (by rw [← size_eq]; exact Nat.le_refl _)
      simp [spansFromP, closeSpans, openPiece, this, wgo]
  | f + 1, pos, st, acc, h, hp, hst => by
    by_cases hlt : pos < s.size
    · have hw := width_pos s pos
      have hwn : pos + (Utf8.decode s pos).2 ≤ s.size := by
        have := decodeN_le_n' (s.size - pos) (s.get! pos).toNat (s.get! (pos + 1)).toNat (s.get! (pos + 2)).toNat (s.get! (pos + 3)).toNat (by omega)
        rw [← decode_at] at this
        omega
      simp only [spansFromP, if_pos hlt]
      by_cases hsp : ((Utf8.decode s pos).1 == 32) = true
      · simp only [if_pos hsp]
        obtain ⟨hb, h1⟩ := dec_yes s pos hsp
        have hdr : s.data.toList.drop pos = 32 :: s.data.toList.drop (pos + 1) := by
          rw [List.drop_eq_getElem_cons (by rw [← size_eq]; exact hlt)]
          rw [List.getD_eq_getElem?_getD, List.getElem?_eq_getElem (by rw [← size_eq]; exact hlt)] at hb
          rw [show s.data.toList[pos]'(by rw [← size_eq]; exact hlt) = 32 from hb]
        rw [hdr, h1, wgo_blank]
        rw [h1] at hwn
        cases st with
        | none =>
          have ih := spansP_eq s f (pos + 1) none acc (by omega) hwn (fun a h => by cases h)
          simpa [openPiece] using ih
        | some a =>
          have hpn := pieceU_ne s.data.toList a pos (hst a rfl) (by rw [← size_eq]; omega)
          have ih := spansP_eq s f (pos + 1) none (acc ++ [(a, pos)]) (by omega) hwn (fun a h => by cases h)
          simpa [openPiece, hpn] using ih
      · simp only [if_neg hsp]
        have hsp := Bool.eq_false_iff.2 hsp
        have hno := dec_no s pos hsp
        have hspl : s.data.toList.drop pos = (s.data.toList.drop pos).take (Utf8.decode s pos).2 ++ s.data.toList.drop (pos + (Utf8.decode s pos).2) := by
          conv => lhs; rw [← List.take_append_drop (Utf8.decode s pos).2 (s.data.toList.drop pos), List.drop_drop]
        rw [hspl, wgo_nob _ _ _ hno]
        cases st with
        | none =>
          have ih := spansP_eq s f (pos + (Utf8.decode s pos).2) (some pos) acc (by omega) hwn (fun a h => by cases h; omega)
          have e : ([] : List UInt8) ++ (s.data.toList.drop pos).take (Utf8.decode s pos).2 = pieceU s.data.toList pos (pos + (Utf8.decode s pos).2) := by
            unfold pieceU
            rw [List.nil_append, Nat.add_sub_cancel_left]
          simp only [openPiece] at ih ⊢
          rw [e]
          exact ih
        | some a =>
          have ih := spansP_eq s f (pos + (Utf8.decode s pos).2) (some a) acc (by omega) hwn (fun b h => by cases h; have := hst a rfl; omega)
          simp only [openPiece] at ih ⊢
          rw [pieceU_grow _ _ _ _ (Nat.le_of_lt (hst a rfl))]
          exact ih
    · obtain rfl : pos = s.size := by omega
      have hd : s.data.toList.drop s.size = [] := List.drop_eq_nil_of_le (by rw [← size_eq]; exact Nat.le_refl _)
      rw [hd, spansFromP_end _ s _ _ _ _ hlt]
      cases st with
      | none => simp [closeSpans, openPiece, wgo]
      | some a =>
        have := pieceU_ne s.data.toList a s.size (hst a rfl) (by rw [← size_eq]; exact Nat.le_refl _)
        simp [closeSpans, openPiece, this, wgo]
theorem fields_words (s : ByteArray) : (goFieldsP (fun r => r == 32) s).map (·.data.toList) = words s.data.toList := by
  have h := spansP_eq s s.size 0 none [] (by omega) (Nat.zero_le _) (fun a h => by cases h)
  simp only [List.map_nil, List.nil_append, openPiece, List.drop_zero] at h
  unfold words goFieldsP spansOfP
  rw [h, List.map_map]
  congr 1
  funext p
  simp [pieceU]
end Go.Proofs.YtnmbakibiaedhaaDoor.Ex
