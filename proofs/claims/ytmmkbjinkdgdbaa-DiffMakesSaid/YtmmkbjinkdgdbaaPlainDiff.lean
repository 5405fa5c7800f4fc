/- Plain law of diff.Far: the least number of bytes left out and put in; the way that goes furthest. -/
namespace Go.Proofs.Ytmmkbjinkdgdbaa
namespace Diff
set_option linter.unusedVariables false
set_option linter.unusedSimpArgs false

/-- b is made of a by d bytes left out or put in. -/
inductive Made {α : Type} : List α → List α → Nat → Prop where
  | nil : Made [] [] 0
  | keep {a b : List α} {d : Nat} (x : α) : Made a b d → Made (x :: a) (x :: b) d
  | take {a b : List α} {d : Nat} (x : α) : Made a b d → Made (x :: a) b (d + 1)
  | give {a b : List α} {d : Nat} (y : α) : Made a b d → Made a (y :: b) (d + 1)

variable {α : Type}

theorem Made.back {a b : List α} {d : Nat} (h : Made a b d) : Made b a d := by
  induction h with
  | nil => exact .nil
  | keep x _ ih => exact .keep x ih
  | take x _ ih => exact .give x ih
  | give x _ ih => exact .take x ih

theorem Made.same (a : List α) : Made a a 0 := by
  induction a with
  | nil => exact .nil
  | cons x a ih => exact .keep x ih

theorem Made.none {a b : List α} {d : Nat} (h : Made a b d) (hd : d = 0) : a = b := by
  induction h with
  | nil => rfl
  | keep x _ ih => rw [ih hd]
  | take x _ _ => omega
  | give x _ _ => omega

theorem Made.odd {a b : List α} {d : Nat} (h : Made a b d) : d ≤ a.length + b.length ∧ (a.length + b.length - d) % 2 = 0 := by
  induction h with
  | nil => simp
  | keep x _ ih => simp only [List.length_cons]; omega
  | take x _ ih => simp only [List.length_cons]; omega
  | give x _ ih => simp only [List.length_cons]; omega

theorem Made.all (a b : List α) : Made a b (a.length + b.length) := by
  induction a with
  | nil =>
    induction b with
    | nil => exact .nil
    | cons y b ih => exact .give y ih
  | cons x a ih => 
    have := Made.take x ih
    rw [List.length_cons, show a.length + 1 + b.length = a.length + b.length + 1 by omega]
    exact this

theorem Made.snoc_take {a b : List α} {d : Nat} (x : α) (h : Made a b d) : Made (a ++ [x]) b (d + 1) := by
  induction h with
  | nil => exact .take x .nil
  | keep y _ ih => exact .keep y ih
  | take y _ ih => exact .take y ih
  | give y _ ih => exact .give y ih

theorem Made.snoc_give {a b : List α} {d : Nat} (x : α) (h : Made a b d) : Made a (b ++ [x]) (d + 1) := (h.back.snoc_take x).back

theorem Made.snoc_keep {a b : List α} {d : Nat} (x : α) (h : Made a b d) : Made (a ++ [x]) (b ++ [x]) d := by
  induction h with
  | nil => exact .keep x .nil
  | keep y _ ih => exact .keep y ih
  | take y _ ih => exact .take y ih
  | give y _ ih => exact .give y ih

/-- No way round is shorter. -/
theorem Made.round : ∀ (s : Nat) {a b c : List α} {d e : Nat}, a.length + b.length + c.length ≤ s → Made a b d → Made b c e → ∃ f, f ≤ d + e ∧ Made a c f
  | 0, a, b, c, d, e, hs, h, k => by
    have ha : a = [] := List.length_eq_zero_iff.mp (by omega)
    have hc : c = [] := List.length_eq_zero_iff.mp (by omega)
    subst ha; subst hc
    exact ⟨0, by omega, .nil⟩
  | s + 1, a, b, c, d, e, hs, h, k => by
    cases h with
    | nil => exact ⟨e, by omega, k⟩
    | @take a' _ d' x h' =>
      obtain ⟨f, hf, hm⟩ := Made.round s (by simp only [List.length_cons] at hs; omega) h' k
      exact ⟨f + 1, by omega, .take x hm⟩
    | @keep a' b' _ x h' =>
      cases k with
      | @keep _ c' _ _ k' =>
        obtain ⟨f, hf, hm⟩ := Made.round s (by simp only [List.length_cons] at hs; omega) h' k'
        exact ⟨f, hf, .keep x hm⟩
      | @take _ _ e' _ k' =>
        obtain ⟨f, hf, hm⟩ := Made.round s (by simp only [List.length_cons] at hs; omega) h' k'
        exact ⟨f + 1, by omega, .take x hm⟩
      | @give _ c' e' y k' =>
        obtain ⟨f, hf, hm⟩ := Made.round s (by simp only [List.length_cons] at hs ⊢; omega) (Made.keep x h') k'
        exact ⟨f + 1, by omega, .give y hm⟩
    | @give _ b' d' y h' =>
      cases k with
      | @keep _ c' _ _ k' =>
        obtain ⟨f, hf, hm⟩ := Made.round s (by simp only [List.length_cons] at hs; omega) h' k'
        exact ⟨f + 1, by omega, .give y hm⟩
      | @take _ _ e' _ k' =>
        obtain ⟨f, hf, hm⟩ := Made.round s (by simp only [List.length_cons] at hs; omega) h' k'
        exact ⟨f, by omega, hm⟩
      | @give _ c' e' z k' =>
        obtain ⟨f, hf, hm⟩ := Made.round s (by simp only [List.length_cons] at hs ⊢; omega) (Made.give y h') k'
        exact ⟨f + 1, by omega, .give z hm⟩

/-- The least such number. -/
def Least (a b : List α) (d : Nat) : Prop := Made a b d ∧ ∀ e, Made a b e → d ≤ e

theorem Least.unique {a b : List α} {d e : Nat} (h : Least a b d) (k : Least a b e) : d = e := by
  have := h.2 e k.1; have := k.2 d h.1; omega

theorem Least.back {a b : List α} {d : Nat} (h : Least a b d) : Least b a d := ⟨h.1.back, fun e k => h.2 e k.back⟩

theorem Least.zero {a b : List α} {d : Nat} (h : Least a b d) : d = 0 ↔ a = b :=
  ⟨fun e => h.1.none e, fun e => by subst e; have := h.2 0 (.same a); omega⟩

theorem Least.round {a b c : List α} {d e f : Nat} (h : Least a b d) (k : Least b c e) (g : Least a c f) : f ≤ d + e := by
  obtain ⟨x, hx, hm⟩ := Made.round _ (Nat.le_refl _) h.1 k.1
  have := g.2 x hm; omega

/-- A place that d bytes left out or put in come to: beyond both ends too. -/
inductive Comes (a b : List α) : Nat → Nat → Nat → Prop where
  | start : Comes a b 0 0 0
  | right {d x y : Nat} : Comes a b d x y → Comes a b (d + 1) (x + 1) y
  | down {d x y : Nat} : Comes a b d x y → Comes a b (d + 1) x (y + 1)
  | on {d x y : Nat} (v : α) : Comes a b d x y → a[x]? = some v → b[y]? = some v → Comes a b d (x + 1) (y + 1)

theorem take_more {l : List α} {n : Nat} : l.take (n + 1) = l.take n ∨ ∃ v, l.take (n + 1) = l.take n ++ [v] := by
  by_cases h : n < l.length
  · exact .inr ⟨l[n], by rw [List.take_add_one, List.getElem?_eq_getElem h]; rfl⟩
  · exact .inl (by rw [List.take_of_length_le (by omega), List.take_of_length_le (by omega)])

theorem Comes.made {a b : List α} {d x y : Nat} (h : Comes a b d x y) : ∃ e, e ≤ d ∧ Made (a.take x) (b.take y) e := by
  induction h with
  | start => exact ⟨0, by omega, .nil⟩
  | @right d x y _ ih =>
    obtain ⟨e, he, hm⟩ := ih
    rcases take_more (l := a) (n := x) with h | ⟨v, h⟩
    · exact ⟨e, by omega, by rw [h]; exact hm⟩
    · exact ⟨e + 1, by omega, by rw [h]; exact hm.snoc_take v⟩
  | @down d x y _ ih =>
    obtain ⟨e, he, hm⟩ := ih
    rcases take_more (l := b) (n := y) with h | ⟨v, h⟩
    · exact ⟨e, by omega, by rw [h]; exact hm⟩
    · exact ⟨e + 1, by omega, by rw [h]; exact hm.snoc_give v⟩
  | @on d x y v _ hx hy ih =>
    obtain ⟨e, he, hm⟩ := ih
    refine ⟨e, he, ?_⟩
    rw [List.take_add_one, List.take_add_one, hx, hy]
    exact hm.snoc_keep v

theorem Comes.of_made {a b a' b' : List α} {e : Nat} (h : Made a' b' e) : ∀ {d x y : Nat}, Comes a b d x y → a.drop x = a' → b.drop y = b' → x ≤ a.length → y ≤ b.length → Comes a b (d + e) a.length b.length := by
  have dropped : ∀ {l l' : List α} {x : Nat} {v : α}, l.drop x = v :: l' → l[x]? = some v ∧ l.drop (x + 1) = l' ∧ x + 1 ≤ l.length := by
    intro l l' x v h
    have hx : x < l.length := by
      by_cases hx : x < l.length
      · exact hx
      · rw [List.drop_eq_nil_of_le (by omega)] at h; cases h
    rw [List.drop_eq_getElem_cons hx] at h
    injection h with h1 h2
    exact ⟨by rw [List.getElem?_eq_getElem hx, h1], h2, hx⟩
  have ended : ∀ {l : List α} {x : Nat}, l.drop x = [] → x ≤ l.length → x = l.length := by
    intro l x h hx
    have := congrArg List.length h
    simp at this
    omega
  induction h with
  | nil =>
    intro d x y hc hx hy hl hm
    rw [ended hx hl, ended hy hm] at hc
    exact hc
  | keep v _ ih =>
    intro d x y hc hx hy hl hm
    obtain ⟨p1, p2, p3⟩ := dropped hx
    obtain ⟨q1, q2, q3⟩ := dropped hy
    exact ih (hc.on v p1 q1) p2 q2 p3 q3
  | @take _ _ e v _ ih =>
    intro d x y hc hx hy hl hm
    obtain ⟨p1, p2, p3⟩ := dropped hx
    have := ih hc.right p2 hy p3 hm
    rw [show d + (e + 1) = d + 1 + e by omega]; exact this
  | @give _ _ e v _ ih =>
    intro d x y hc hx hy hl hm
    obtain ⟨q1, q2, q3⟩ := dropped hy
    have := ih hc.down hx q2 hl q3
    rw [show d + (e + 1) = d + 1 + e by omega]; exact this

theorem Comes.ends {a b : List α} {e : Nat} (h : Made a b e) : Comes a b e a.length b.length := by
  have := Comes.of_made h (Comes.start (a := a) (b := b)) rfl rfl (by omega) (by omega)
  rwa [Nat.zero_add] at this

theorem Comes.diag {a b : List α} {d x y : Nat} (h : Comes a b d x y) : (x : Int) - y ≤ d ∧ -(d : Int) ≤ (x : Int) - y ∧ ((x : Int) - y - d) % 2 = 0 := by
  induction h with
  | start => simp
  | right _ ih => omega
  | down _ ih => omega
  | on _ _ _ _ ih => omega

/-- The furthest place of a diagonal: one that comes, and that goes no further. -/
structure Far (a b : List α) (d : Nat) (k : Int) (x : Nat) : Prop where
  comes : ∃ y : Nat, (y : Int) = x - k ∧ Comes a b d x y
  most : ∀ x' y' : Nat, Comes a b d x' y' → (x' : Int) - y' = k → x' ≤ x

/-- No way on from here. -/
def Stuck (a b : List α) (x : Nat) (k : Int) : Prop := ∀ y : Nat, (y : Int) = x - k → ∀ v, a[x]? = some v → b[y]? = some v → False

theorem Far.zero {a b : List α} {x : Nat} (hc : Comes a b 0 x x) (hs : Stuck a b x 0) : Far a b 0 0 x := by
  refine ⟨⟨x, by omega, hc⟩, ?_⟩
  have : ∀ d x' y', Comes a b d x' y' → d = 0 → x' = y' ∧ x' ≤ x := by
    intro d x' y' h
    induction h with
    | start => intro _; omega
    | right _ _ => intro h; omega
    | down _ _ => intro h; omega
    | @on d x' y' v _ hx hy ih =>
      intro hd
      obtain ⟨e, hle⟩ := ih hd
      subst e
      refine ⟨rfl, ?_⟩
      by_cases hq : x' = x
      · subst hq
        exact absurd (hs x' (by omega) v hx hy) not_false
      · omega
  intro x' y' h _
  exact (this 0 x' y' h rfl).2

theorem Far.next {a b : List α} {d : Nat} {k : Int} {x : Nat} (hc : ∃ y : Nat, (y : Int) = x - k ∧ Comes a b (d + 1) x y) (hs : Stuck a b x k)
    (hl : ∀ x' y', Comes a b d x' y' → (x' : Int) - y' = k - 1 → x' + 1 ≤ x) (hr : ∀ x' y', Comes a b d x' y' → (x' : Int) - y' = k + 1 → x' ≤ x) : Far a b (d + 1) k x := by
  refine ⟨hc, ?_⟩
  have : ∀ e x' y', Comes a b e x' y' → e = d + 1 → (x' : Int) - y' = k → x' ≤ x := by
    intro e x' y' h
    induction h with
    | start => intro h; omega
    | @right e x' y' h _ => intro he hk; have : e = d := by omega
                            subst this; exact hl x' y' h (by omega)
    | @down e x' y' h _ => intro he hk; have : e = d := by omega
                           subst this; exact hr x' y' h (by omega)
    | @on e x' y' v _ hx hy ih =>
      intro he hk
      have hle := ih he (by omega)
      by_cases hq : x' = x
      · subst hq
        exact absurd (hs y' (by omega) v hx hy) not_false
      · omega
  intro x' y' h hk
  exact this _ x' y' h rfl hk

/-- What the program's return says. -/
theorem least_of {a b : List α} {d : Nat} {k : Int} {x : Nat} (h : Far a b d k x) (hx : a.length ≤ x) (hy : (b.length : Int) ≤ x - k)
    (hb : ∀ e, e < d → ∀ k x, Far a b e k x → ¬ (a.length ≤ x ∧ (b.length : Int) ≤ x - k)) (hf : ∀ e, e < d → ∀ k : Int, -(e : Int) ≤ k → k ≤ e → (k - e) % 2 = 0 → ∃ x, Far a b e k x) : Least a b d := by
  have low : ∀ e, Made a b e → d ≤ e := by
    intro e he
    have hc := Comes.ends he
    have hd := hc.diag
    by_cases hle : d ≤ e
    · exact hle
    · obtain ⟨x', hx'⟩ := hf e (by omega) ((a.length : Int) - b.length) (by omega) (by omega) (by omega)
      have := hx'.most _ _ hc rfl
      exact absurd ⟨this, by omega⟩ (hb e (by omega) _ x' hx')
  refine ⟨?_, low⟩
  obtain ⟨y, hy', hc⟩ := h.comes
  obtain ⟨e, he, hm⟩ := hc.made
  rw [List.take_of_length_le hx, List.take_of_length_le (by omega)] at hm
  have := low e hm
  have : e = d := by omega
  rw [← this]; exact hm

end Diff
end Go.Proofs.Ytmmkbjinkdgdbaa
