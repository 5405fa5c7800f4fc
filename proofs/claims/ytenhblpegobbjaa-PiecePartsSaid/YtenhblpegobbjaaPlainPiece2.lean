/- Plain law of package piece: an edit; how deep a level tree is; edits that lie apart. -/
import Derived.Test.YtenhblpegobbjaaPlainPiece
namespace Go.Proofs.Ytenhblpegobbjaa
namespace Piece
set_option linter.unusedVariables false
set_option linter.unusedSimpArgs false
namespace Tr
/-- what a tree weighs: its bytes and its pieces -/
def wt (t : Tr) : Nat := t.text.length + t.count
theorem wt_nil : wt nil = 0 := rfl
theorem wt_node (l : Tr) (s : List UInt8) (r : Tr) : wt (node l s r) = wt l + s.length + 1 + wt r := by
  simp only [wt, text, count, List.length_append]; omega
theorem wt_pieces {t u : Tr} (h : t.pieces = u.pieces) : wt t = wt u := by
  simp only [wt, text_eq, count_eq, h]
theorem wt_of (t : Tr) (l r : Tr) (s : List UInt8) (h : t.pieces = l.pieces ++ s :: r.pieces) : wt t = wt l + s.length + 1 + wt r := by
  rw [← wt_node]; exact wt_pieces h
theorem wt_level (l : Tr) (s : List UInt8) (r : Tr) : wt (level l s r) = wt l + s.length + 1 + wt r := wt_of _ _ _ _ (level_pieces l s r)
theorem wt_between (l : Tr) (s : List UInt8) (r : Tr) : wt (between l s r) = wt l + s.length + 1 + wt r := wt_of _ _ _ _ (between_pieces l s r)
theorem text_len_wt (t : Tr) : t.text.length ≤ wt t := by unfold wt; omega
theorem high_wt (t : Tr) : t.high ≤ wt t := by have := t.high_le; unfold wt; omega
theorem wt_first (t : Tr) (h : t ≠ nil) : wt t = (first t).1.length + 1 + wt (first t).2 := by
  have := first_pieces t h
  have h2 := wt_of t nil (first t).2 (first t).1 (by rw [this]; simp [pieces])
  rw [wt_nil] at h2; omega
theorem wt_cut (t : Tr) (k : Nat) : wt (cut t k).1 + wt (cut t k).2 ≤ wt t + 1 := by
  induction t generalizing k with
  | nil => simp [cut, wt_nil]
  | node l s r h1 h2 =>
    unfold cut
    rw [wt_node]
    split
    · have := h1 k
      simp only [wt_between]; omega
    · split
      · have := h2 (k - l.text.length - s.length)
        simp only [wt_between]; omega
      · simp only [wt_between, wt_nil, List.length_take, List.length_drop]; omega

/-- the text in which so many bytes are others -/
def edit (t : Tr) (a o : Nat) (i : List UInt8) : Tr :=
  if i = [] then both (cut t a).1 (cut (cut t a).2 o).2 else between (cut t a).1 i (cut (cut t a).2 o).2
theorem cut_second (t : Tr) (k : Nat) (hf : t.full) (hk : k ≤ t.text.length) : (cut t k).2.count ≤ t.count := by
  rw [count_eq, count_eq]
  rcases cut_pieces t k hf hk with ⟨xs, ys, e1, e2, e3, e4⟩ | ⟨xs, x, y, ys, n1, n2, e1, e2, e3, e4⟩
  · rw [e1, e3]; simp
  · rw [e1, e3]; simp
theorem edit_pieces (t : Tr) (a o : Nat) (i : List UInt8) : (edit t a o i).pieces = (cut t a).1.pieces ++ (if i = [] then [] else [i]) ++ (cut (cut t a).2 o).2.pieces := by
  unfold edit
  split
  · rw [both_pieces]; simp
  · rw [between_pieces]; simp
theorem edit_text (t : Tr) (a o : Nat) (i : List UInt8) (hf : t.full) (h : a + o ≤ t.text.length) : (edit t a o i).text = t.text.take a ++ i ++ t.text.drop (a + o) := by
  obtain ⟨h1, h2⟩ := cut_text t a hf (by omega)
  obtain ⟨f1, f2, _⟩ := cut_full t a hf (by omega)
  obtain ⟨h3, h4⟩ := cut_text (cut t a).2 o f2 (by rw [h2, List.length_drop]; omega)
  rw [text_eq, edit_pieces, List.flatten_append, List.flatten_append, ← text_eq, ← text_eq, h1, h4, h2, List.drop_drop]
  by_cases hi : i = []
  · simp [hi]
  · simp [hi]
theorem edit_full (t : Tr) (a o : Nat) (i : List UInt8) (hf : t.full) (h : a + o ≤ t.text.length) : (edit t a o i).full ∧ (edit t a o i).count ≤ t.count + 2 := by
  obtain ⟨h1, h2⟩ := cut_text t a hf (by omega)
  obtain ⟨f1, f2, c1⟩ := cut_full t a hf (by omega)
  have hlen : o ≤ (cut t a).2.text.length := by rw [h2, List.length_drop]; omega
  obtain ⟨f3, f4, c2⟩ := cut_full (cut t a).2 o f2 hlen
  have c3 := cut_second (cut t a).2 o f2 hlen
  constructor
  · intro p hp
    rw [edit_pieces] at hp
    rcases List.mem_append.mp hp with hp | hp
    · rcases List.mem_append.mp hp with hp | hp
      · exact f1 p hp
      · by_cases hi : i = []
        · simp [hi] at hp
        · simp only [hi, if_false, List.mem_singleton] at hp
          rw [hp]; exact hi
    · exact f4 p hp
  · rw [count_eq, edit_pieces, List.length_append, List.length_append, ← count_eq, ← count_eq]
    have : (if i = [] then ([] : List (List UInt8)) else [i]).length ≤ 1 := by split <;> simp
    omega
theorem edit_bal (t : Tr) (a o : Nat) (i : List UInt8) (hb : t.bal) : (edit t a o i).bal := by
  obtain ⟨h1, h2⟩ := cut_bal t a hb
  obtain ⟨h3, h4⟩ := cut_bal (cut t a).2 o h2
  unfold edit
  split
  · exact both_bal _ _ h1 h4
  · exact (between_bal _ _ _ h1 h4).1
/-- A level tree is not deep. -/
theorem bal_pow (t : Tr) (hb : t.bal) : 2 ^ t.high ≤ (t.count + 1) * (t.count + 1) := by
  have key : ∀ (h : Nat) (t : Tr), t.high ≤ h → t.bal → 2 ^ t.high ≤ (t.count + 1) * (t.count + 1) := by
    intro h
    induction h with
    | zero =>
      intro t ht hb
      cases t with
      | nil => simp [high, count]
      | node l s r => simp [high] at ht
    | succ h ih =>
      intro t ht hb
      cases t with
      | nil => simp [high, count]
      | node l s r =>
        obtain ⟨p1, p2, p3, p4⟩ := hb
        simp only [high] at ht
        have i1 := ih l (by omega) p1
        have i2 := ih r (by omega) p2
        simp only [high, count]
        generalize l.high = x at *
        generalize r.high = y at *
        have comm : ∀ (p q x y : Nat), 2 ^ x ≤ (p + 1) * (p + 1) → 2 ^ y ≤ (q + 1) * (q + 1) → x ≤ y → y ≤ x + 1 → 2 ^ (1 + max x y) ≤ (p + 1 + q + 1) * (p + 1 + q + 1) := by
          intro p q x y i1 i2 h1 h2
          have hm : max x y = y := by omega
          rw [hm]
          have hexp : (p + 1 + q + 1) * (p + 1 + q + 1) = (p + 1) * (p + 1) + (q + 1) * (q + 1) + 2 * ((p + 1) * (q + 1)) := by
            have e : p + 1 + q + 1 = (p + 1) + (q + 1) := by omega
            rw [e]
            generalize p + 1 = u
            generalize q + 1 = v
            have h1 := Nat.add_mul u v (u + v)
            have h2 := Nat.mul_add u u v
            have h3 := Nat.mul_add v u v
            have h4 := Nat.mul_comm v u
            omega
          rw [hexp, Nat.pow_add, Nat.pow_one]
          rcases (by omega : y = x ∨ y = x + 1) with rfl | rfl
          · omega
          · rw [Nat.pow_succ] at i2 ⊢
            have hsq : 2 ^ x ≤ (p + 1) * (q + 1) := by
              rcases Nat.le_total p q with hpq | hpq
              · exact Nat.le_trans i1 (Nat.mul_le_mul_left _ (by omega))
              · have : (q + 1) * (q + 1) ≤ (p + 1) * (q + 1) := Nat.mul_le_mul_right _ (by omega)
                omega
            omega
        rcases Nat.le_total x y with hxy | hxy
        · have := comm l.count r.count x y i1 i2 hxy (by omega)
          exact this
        · have := comm r.count l.count y x i2 i1 hxy (by omega)
          rw [Nat.max_comm] at this
          rw [show l.count + 1 + r.count + 1 = r.count + 1 + l.count + 1 from by omega]
          exact this
  exact key t.high t (Nat.le_refl _) hb
/-- a text of one piece -/
def one (s : List UInt8) : Tr := if s = [] then nil else node nil s nil
theorem one_text (s : List UInt8) : (one s).text = s := by
  unfold one; split
  · rename_i h; rw [h]; rfl
  · simp [text]
theorem one_full (s : List UInt8) : (one s).full := by
  unfold one; split
  · intro p hp; simp [pieces] at hp
  · rename_i h; intro p hp; simp [pieces] at hp; rw [hp]; exact h
theorem one_bal (s : List UInt8) : (one s).bal := by
  unfold one; split
  · trivial
  · exact ⟨trivial, trivial, by simp [high], by simp [high]⟩
end Tr
/-- WHAT LIES APART MAY BE DONE IN ANY ORDER. -/
theorem apart (s x y : List UInt8) (a n b m : Nat) (h1 : a + n ≤ b) (h2 : b + m ≤ s.length) :
    ((s.take b ++ y ++ s.drop (b + m)).take a ++ x ++ (s.take b ++ y ++ s.drop (b + m)).drop (a + n) = s.take a ++ x ++ (s.take b).drop (a + n) ++ y ++ s.drop (b + m)) ∧
    ((s.take a ++ x ++ s.drop (a + n)).take (b - n + x.length) ++ y ++ (s.take a ++ x ++ s.drop (a + n)).drop (b - n + x.length + m) = s.take a ++ x ++ (s.take b).drop (a + n) ++ y ++ s.drop (b + m)) := by
  have la : (s.take a).length = a := by rw [List.length_take]; omega
  have lb : (s.take b).length = b := by rw [List.length_take]; omega
  constructor
  · rw [List.append_assoc (s.take b), List.take_append_of_le_length (by omega), List.take_take, List.drop_append_of_le_length (by omega), Nat.min_eq_left (by omega)]
    simp only [List.append_assoc]
  · have e1 : (s.take a ++ x).length = a + x.length := by rw [List.length_append, la]
    have t1 : (s.take a ++ x ++ s.drop (a + n)).take (b - n + x.length) = s.take a ++ x ++ (s.take b).drop (a + n) := by
      rw [List.take_append, e1, List.take_of_length_le (by omega), List.drop_take]
      congr 2
      omega
    have t2 : (s.take a ++ x ++ s.drop (a + n)).drop (b - n + x.length + m) = s.drop (b + m) := by
      rw [List.drop_append, e1, List.drop_of_length_le (by omega), List.nil_append, List.drop_drop]
      congr 1
      omega
    rw [t1, t2]
end Piece
end Go.Proofs.Ytenhblpegobbjaa
