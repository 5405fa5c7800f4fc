/- Plain law of package piece: trees of pieces; level trees. -/
namespace Go.Proofs.Ytenhblpegobbjaa
namespace Piece
set_option linter.unusedVariables false
set_option linter.unusedSimpArgs false

inductive Tr where
  | nil
  | node (l : Tr) (s : List UInt8) (r : Tr)

namespace Tr
def text : Tr → List UInt8
  | nil => []
  | node l s r => l.text ++ s ++ r.text
def pieces : Tr → List (List UInt8)
  | nil => []
  | node l s r => l.pieces ++ s :: r.pieces
def high : Tr → Nat
  | nil => 0
  | node l _ r => 1 + max l.high r.high
def count : Tr → Nat
  | nil => 0
  | node l _ r => l.count + 1 + r.count
/-- No piece is empty. -/
def full (t : Tr) : Prop := ∀ p ∈ t.pieces, p ≠ []
/-- Heights differ by one at most. -/
def bal : Tr → Prop
  | nil => True
  | node l _ r => l.bal ∧ r.bal ∧ l.high ≤ r.high + 1 ∧ r.high ≤ l.high + 1

theorem text_eq (t : Tr) : t.text = t.pieces.flatten := by
  induction t with
  | nil => rfl
  | node l s r h1 h2 => simp [text, pieces, h1, h2, List.append_assoc]
theorem count_eq (t : Tr) : t.count = t.pieces.length := by
  induction t with
  | nil => rfl
  | node l s r h1 h2 => simp [count, pieces, h1, h2]; omega
theorem high_le (t : Tr) : t.high ≤ t.count := by
  induction t with
  | nil => exact Nat.le_refl _
  | node l s r h1 h2 => simp only [high, count]; omega
theorem flat_le : ∀ (l : List (List UInt8)), (∀ p ∈ l, p ≠ []) → l.length ≤ l.flatten.length
  | [], _ => by simp
  | a :: l, h => by
    have h1 := h a (by simp)
    have h2 := flat_le l (fun p hp => h p (by simp [hp]))
    have : 1 ≤ a.length := by cases a with | nil => exact absurd rfl h1 | cons _ _ => simp
    simp only [List.length_cons, List.flatten_cons, List.length_append]; omega
theorem full.count_le {t : Tr} (h : t.full) : t.count ≤ t.text.length := by
  rw [t.count_eq, t.text_eq]; exact flat_le _ h
theorem high_nil {t : Tr} (h : 0 < t.high) : ∃ a s b, t = node a s b := by
  cases t with
  | nil => simp [high] at h
  | node a s b => exact ⟨a, s, b, rfl⟩

def level (l : Tr) (s : List UInt8) (r : Tr) : Tr :=
  if r.high + 1 < l.high then
    match l with
    | nil => nil
    | node a t b =>
      if a.high < b.high then
        match b with
        | nil => nil
        | node c u d => node (node a t c) u (node d s r)
      else node a t (node b s r)
  else if l.high + 1 < r.high then
    match r with
    | nil => nil
    | node a t b =>
      if b.high < a.high then
        match a with
        | nil => nil
        | node c u d => node (node l s c) u (node d t b)
      else node (node l s a) t b
  else node l s r

theorem level_pieces (l : Tr) (s : List UInt8) (r : Tr) : (level l s r).pieces = l.pieces ++ s :: r.pieces := by
  unfold level
  split
  · rename_i h
    cases l with
    | nil => simp [high] at h
    | node a t b =>
      simp only []
      split
      · rename_i h2
        cases b with
        | nil => simp [high] at h2
        | node c u d => simp [pieces]
      · simp [pieces]
  · split
    · rename_i h
      cases r with
      | nil => simp [high] at h
      | node a t b =>
        simp only []
        split
        · rename_i h2
          cases a with
          | nil => simp [high] at h2
          | node c u d => simp [pieces]
        · simp [pieces]
    · simp [pieces]

theorem level_bal {l r : Tr} (s : List UInt8) (hl : l.bal) (hr : r.bal) (h1 : l.high ≤ r.high + 2) (h2 : r.high ≤ l.high + 2) :
    (level l s r).bal ∧ max l.high r.high ≤ (level l s r).high ∧ (level l s r).high ≤ max l.high r.high + 1 ∧ (l.high ≤ r.high + 1 → r.high ≤ l.high + 1 → (level l s r).high = max l.high r.high + 1) := by
  unfold level
  split
  · rename_i h
    cases l with
    | nil => simp [high] at h
    | node a t b =>
      simp only []
      simp only [bal, high] at hl h1 h2 h ⊢
      split
      · rename_i h3
        cases b with
        | nil => simp [high] at h3
        | node c u d =>
          simp only [bal, high] at hl h1 h2 h h3 ⊢
          obtain ⟨p1, ⟨p2, p3, p4, p5⟩, p6, p7⟩ := hl
          refine ⟨⟨⟨p1, p2, ?_, ?_⟩, ⟨p3, hr, ?_, ?_⟩, ?_, ?_⟩, ?_, ?_, ?_⟩ <;> omega
      · simp only [bal, high] at hl h1 h2 h ⊢
        obtain ⟨p1, p2, p6, p7⟩ := hl
        refine ⟨⟨p1, ⟨p2, hr, ?_, ?_⟩, ?_, ?_⟩, ?_, ?_, ?_⟩ <;> omega
  · split
    · rename_i h
      cases r with
      | nil => simp [high] at h
      | node a t b =>
        simp only []
        simp only [bal, high] at hr h1 h2 h ⊢
        split
        · rename_i h3
          cases a with
          | nil => simp [high] at h3
          | node c u d =>
            simp only [bal, high] at hr h1 h2 h h3 ⊢
            obtain ⟨⟨p2, p3, p4, p5⟩, p1, p6, p7⟩ := hr
            refine ⟨⟨⟨hl, p2, ?_, ?_⟩, ⟨p3, p1, ?_, ?_⟩, ?_, ?_⟩, ?_, ?_, ?_⟩ <;> omega
        · simp only [bal, high] at hr h1 h2 h ⊢
          obtain ⟨p1, p2, p6, p7⟩ := hr
          refine ⟨⟨⟨hl, p1, ?_, ?_⟩, p2, ?_, ?_⟩, ?_, ?_, ?_⟩ <;> omega
    · simp only [bal, high]
      refine ⟨⟨hl, hr, ?_, ?_⟩, ?_, ?_, ?_⟩ <;> omega

def between (l : Tr) (s : List UInt8) (r : Tr) : Tr :=
  if r.high + 1 < l.high then
    match l with
    | nil => nil
    | node a t b => level a t (between b s r)
  else if l.high + 1 < r.high then
    match r with
    | nil => nil
    | node a t b => level (between l s a) t b
  else node l s r
termination_by l.count + r.count
decreasing_by all_goals (simp only [count]; omega)

theorem between_pieces (l : Tr) (s : List UInt8) (r : Tr) : (between l s r).pieces = l.pieces ++ s :: r.pieces := by
  fun_induction between l s r with
  | case1 r h => simp [high] at h
  | case2 r a t b h ih => simp [level_pieces, ih, pieces]
  | case3 l h1 h => simp [high] at h
  | case4 l a t b h1 h ih => simp [level_pieces, ih, pieces]
  | case5 l r h1 h2 => simp [pieces]

theorem between_bal (l : Tr) (s : List UInt8) (r : Tr) (hl : l.bal) (hr : r.bal) : (between l s r).bal ∧ max l.high r.high ≤ (between l s r).high ∧ (between l s r).high ≤ max l.high r.high + 1 := by
  fun_induction between l s r with
  | case1 r h => simp [high] at h
  | case2 r a t b h ih =>
    simp only [bal] at hl
    obtain ⟨p1, p2, p3, p4⟩ := hl
    obtain ⟨q1, q2, q3⟩ := ih p2 hr
    simp only [high] at h ⊢
    have := level_bal t p1 q1 (by omega) (by omega)
    obtain ⟨e1, e2, e3, e4⟩ := this
    refine ⟨e1, by omega, ?_⟩
    by_cases hx : a.high ≤ (between b s r).high + 1 ∧ (between b s r).high ≤ a.high + 1
    · have := e4 hx.1 hx.2; omega
    · omega
  | case3 l h1 h => simp [high] at h
  | case4 l a t b h1 h ih =>
    simp only [bal] at hr
    obtain ⟨p1, p2, p3, p4⟩ := hr
    obtain ⟨q1, q2, q3⟩ := ih hl p1
    simp only [high] at h h1 ⊢
    have := level_bal t q1 p2 (by omega) (by omega)
    obtain ⟨e1, e2, e3, e4⟩ := this
    refine ⟨e1, by omega, ?_⟩
    by_cases hx : (between l s a).high ≤ b.high + 1 ∧ b.high ≤ (between l s a).high + 1
    · have := e4 hx.1 hx.2; omega
    · omega
  | case5 l r h1 h2 =>
    simp only [bal, high]
    refine ⟨⟨hl, hr, ?_, ?_⟩, ?_, ?_⟩ <;> omega

def first : Tr → List UInt8 × Tr
  | nil => ([], nil)
  | node nil s r => (s, r)
  | node (node a t b) s r => ((first (node a t b)).1, level (first (node a t b)).2 s r)

theorem first_pieces (t : Tr) (h : t ≠ nil) : t.pieces = (first t).1 :: (first t).2.pieces := by
  fun_induction first t with
  | case1 => exact absurd rfl h
  | case2 s r => simp [pieces]
  | case3 a t b s r ih =>
    have ih := ih (by simp)
    rw [level_pieces, ← List.cons_append, ← ih]
    rfl

theorem first_bal (t : Tr) (h : t ≠ nil) (hb : t.bal) : (first t).2.bal ∧ (first t).2.high ≤ t.high ∧ t.high ≤ (first t).2.high + 1 := by
  fun_induction first t with
  | case1 => exact absurd rfl h
  | case2 s r =>
    simp only [bal, high] at hb ⊢
    refine ⟨hb.2.1, by omega, by omega⟩
  | case3 a t b s r ih =>
    have hb' : (node a t b).bal ∧ r.bal ∧ (node a t b).high ≤ r.high + 1 ∧ r.high ≤ (node a t b).high + 1 := hb
    obtain ⟨p1, p2, p3, p4⟩ := hb'
    obtain ⟨q1, q2, q3⟩ := ih (by simp) p1
    obtain ⟨e1, e2, e3, e4⟩ := level_bal s q1 p2 (by omega) (by omega)
    rw [show (node (node a t b) s r).high = 1 + max (node a t b).high r.high from rfl]
    dsimp only
    generalize (first (node a t b)).2 = x at *
    generalize node a t b = y at *
    refine ⟨e1, ?_, ?_⟩
    · by_cases hx : x.high ≤ r.high + 1 ∧ r.high ≤ x.high + 1
      · have := e4 hx.1 hx.2; omega
      · omega
    · by_cases hx : x.high ≤ r.high + 1 ∧ r.high ≤ x.high + 1
      · have := e4 hx.1 hx.2; omega
      · omega

def both (l r : Tr) : Tr :=
  match l, r with
  | nil, r => r
  | l, nil => l
  | l, r => between l (first r).1 (first r).2

theorem both_pieces (l r : Tr) : (both l r).pieces = l.pieces ++ r.pieces := by
  cases l with
  | nil => simp [both, pieces]
  | node a s b =>
    cases r with
    | nil => simp [both, pieces]
    | node c t d =>
      simp only [both]
      rw [between_pieces, ← first_pieces _ (by simp)]
theorem both_bal (l r : Tr) (hl : l.bal) (hr : r.bal) : (both l r).bal := by
  cases l with
  | nil => simpa [both] using hr
  | node a s b =>
    cases r with
    | nil => simpa [both] using hl
    | node c t d =>
      simp only [both]
      exact (between_bal _ _ _ hl (first_bal _ (by simp) hr).1).1

def cut : Tr → Nat → Tr × Tr
  | nil, _ => (nil, nil)
  | node l s r, k =>
    if k ≤ l.text.length then ((cut l k).1, between (cut l k).2 s r)
    else if l.text.length + s.length ≤ k then (between l s (cut r (k - l.text.length - s.length)).1, (cut r (k - l.text.length - s.length)).2)
    else (between l (s.take (k - l.text.length)) nil, between nil (s.drop (k - l.text.length)) r)

theorem cut_bal (t : Tr) (k : Nat) (h : t.bal) : (cut t k).1.bal ∧ (cut t k).2.bal := by
  induction t generalizing k with
  | nil => exact ⟨trivial, trivial⟩
  | node l s r h1 h2 =>
    obtain ⟨p1, p2, p3, p4⟩ := h
    unfold cut
    split
    · obtain ⟨q1, q2⟩ := h1 k p1
      exact ⟨q1, (between_bal _ _ _ q2 p2).1⟩
    · split
      · obtain ⟨q1, q2⟩ := h2 (k - l.text.length - s.length) p2
        exact ⟨(between_bal _ _ _ p1 q1).1, q2⟩
      · exact ⟨(between_bal _ _ _ p1 (by trivial)).1, (between_bal _ _ _ (by trivial) p2).1⟩

/-- How a tree is cut: between two pieces, or in one. -/
theorem cut_pieces (t : Tr) (k : Nat) (hf : t.full) (hk : k ≤ t.text.length) :
    (∃ xs ys, t.pieces = xs ++ ys ∧ (cut t k).1.pieces = xs ∧ (cut t k).2.pieces = ys ∧ xs.flatten.length = k) ∨
    (∃ xs x y ys, x ≠ [] ∧ y ≠ [] ∧ t.pieces = xs ++ (x ++ y) :: ys ∧ (cut t k).1.pieces = xs ++ [x] ∧ (cut t k).2.pieces = y :: ys ∧ (xs ++ [x]).flatten.length = k) := by
  induction t generalizing k with
  | nil => exact .inl ⟨[], [], rfl, rfl, rfl, by simp [text] at hk; simp [hk]⟩
  | node l s r h1 h2 =>
    have hfl : l.full := fun p hp => hf p (by simp [pieces, hp])
    have hfr : r.full := fun p hp => hf p (by simp [pieces, hp])
    unfold cut
    split
    · rename_i hle
      rcases h1 k hfl hle with ⟨xs, ys, e1, e2, e3, e4⟩ | ⟨xs, x, y, ys, n1, n2, e1, e2, e3, e4⟩
      · refine .inl ⟨xs, ys ++ s :: r.pieces, ?_, e2, ?_, e4⟩
        · simp [pieces, e1]
        · rw [between_pieces, e3]
      · refine .inr ⟨xs, x, y, ys ++ s :: r.pieces, n1, n2, ?_, e2, ?_, e4⟩
        · simp [pieces, e1]
        · rw [between_pieces, e3]; rfl
    · split
      · rename_i hgt hle
        simp only [text, List.length_append] at hk
        have hl := congrArg List.length l.text_eq
        rcases h2 (k - l.text.length - s.length) hfr (by omega) with ⟨xs, ys, e1, e2, e3, e4⟩ | ⟨xs, x, y, ys, n1, n2, e1, e2, e3, e4⟩
        · refine .inl ⟨l.pieces ++ s :: xs, ys, ?_, ?_, e3, ?_⟩
          · simp [pieces, e1]
          · rw [between_pieces, e2]
          · rw [List.flatten_append, List.flatten_cons, List.length_append, List.length_append, ← hl]; omega
        · refine .inr ⟨l.pieces ++ s :: xs, x, y, ys, n1, n2, ?_, ?_, e3, ?_⟩
          · simp [pieces, e1]
          · rw [between_pieces, e2]; simp
          · rw [List.append_assoc, List.flatten_append, List.cons_append, List.flatten_cons, List.length_append, List.length_append, ← hl]; omega
      · rename_i hgt hle
        have hl := congrArg List.length l.text_eq
        refine .inr ⟨l.pieces, s.take (k - l.text.length), s.drop (k - l.text.length), r.pieces, ?_, ?_, ?_, ?_, ?_, ?_⟩
        · intro h
          have := congrArg List.length h
          simp only [List.length_take, List.length_nil] at this
          omega
        · intro h
          have := congrArg List.length h
          simp only [List.length_drop, List.length_nil] at this
          omega
        · rw [List.take_append_drop]; rfl
        · rw [between_pieces]; rfl
        · rw [between_pieces]; rfl
        · rw [List.flatten_append, List.length_append, ← hl]
          simp only [List.flatten_cons, List.flatten_nil, List.append_nil, List.length_take]
          omega

theorem cut_text (t : Tr) (k : Nat) (hf : t.full) (hk : k ≤ t.text.length) : (cut t k).1.text = t.text.take k ∧ (cut t k).2.text = t.text.drop k := by
  have key : ∃ u v, t.text = u ++ v ∧ (cut t k).1.text = u ∧ (cut t k).2.text = v ∧ u.length = k := by
    rcases cut_pieces t k hf hk with ⟨xs, ys, e1, e2, e3, e4⟩ | ⟨xs, x, y, ys, n1, n2, e1, e2, e3, e4⟩
    · exact ⟨xs.flatten, ys.flatten, by rw [t.text_eq, e1, List.flatten_append], by rw [text_eq, e2], by rw [text_eq, e3], e4⟩
    · exact ⟨(xs ++ [x]).flatten, (y :: ys).flatten, by rw [t.text_eq, e1]; simp, by rw [text_eq, e2], by rw [text_eq, e3], e4⟩
  obtain ⟨u, v, h1, h2, h3, h4⟩ := key
  rw [h1, h2, h3, ← h4]
  simp

theorem cut_full (t : Tr) (k : Nat) (hf : t.full) (hk : k ≤ t.text.length) : (cut t k).1.full ∧ (cut t k).2.full ∧ (cut t k).1.count + (cut t k).2.count ≤ t.count + 1 := by
  rw [count_eq, count_eq, count_eq]
  rcases cut_pieces t k hf hk with ⟨xs, ys, e1, e2, e3, e4⟩ | ⟨xs, x, y, ys, n1, n2, e1, e2, e3, e4⟩
  · refine ⟨fun p hp => hf p ?_, fun p hp => hf p ?_, ?_⟩
    · rw [e2] at hp; rw [e1]; simp [hp]
    · rw [e3] at hp; rw [e1]; simp [hp]
    · rw [e1, e2, e3]; simp
  · refine ⟨fun p hp => ?_, fun p hp => ?_, ?_⟩
    · rw [e2] at hp
      rcases List.mem_append.mp hp with h | h
      · exact hf p (by rw [e1]; simp [h])
      · rw [List.mem_singleton.mp h]; exact n1
    · rw [e3] at hp
      rcases List.mem_cons.mp hp with h | h
      · rw [h]; exact n2
      · exact hf p (by rw [e1]; simp [h])
    · rw [e1, e2, e3]; simp; omega
end Tr
end Piece
end Go.Proofs.Ytenhblpegobbjaa
