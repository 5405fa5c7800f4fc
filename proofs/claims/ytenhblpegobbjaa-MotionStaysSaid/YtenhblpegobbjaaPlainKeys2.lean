/- Parse, plain: no command begins another one. -/
import Derived.Test.YtenhblpegobbjaaPlainKeys
namespace Go.Proofs.Ytenhblpegobbjaa
set_option linter.unusedVariables false
namespace Keys
/-- what each part of Parse is good for -/
structure Stage (f : List UInt8 → Cm × List UInt8 × Nat) : Prop where
  more : ∀ l, (f l).2.2 = 0 → (f l).2.1 = []
  suf : ∀ l, ∃ u, l = u ++ (f l).2.1
  done : ∀ l m, (f l).2.2 = 1 → f (l ++ m) = ((f l).1, (f l).2.1 ++ m, 1)
  bad : ∀ l m, (f l).2.2 = 2 → (f (l ++ m)).2.2 = 2
  start : ∀ l k, (f l).2.2 = 1 → k + (f l).2.1.length < l.length → (f (l.take k)).2.2 = 0
  what : ∀ l, (f l).2.2 ≤ 2
theorem Stage.ready (c : Cm) : Stage fun l => (c, l, 1) where
  more := fun l h => by simp at h
  suf := fun l => ⟨[], rfl⟩
  done := fun l m _ => rfl
  bad := fun l m h => by simp at h
  start := fun l k _ h => absurd h (by show ¬ (k + l.length < l.length); omega)
  what := fun l => by simp
theorem Stage.wrong (c : Cm) : Stage fun l => (c, l, 2) where
  more := fun l h => by simp at h
  suf := fun l => ⟨[], rfl⟩
  done := fun l m h => by simp at h
  bad := fun l m h => rfl
  start := fun l k h => by simp at h
  what := fun l => by simp
theorem Stage.cons {F : UInt8 → List UInt8 → Cm × List UInt8 × Nat} (h : ∀ a, Stage (F a)) :
    Stage fun l => match l with | [] => (Cm.zero, [], 0) | a :: l => F a l where
  more := fun l e => by
    cases l with
    | nil => rfl
    | cons a l => exact (h a).more l e
  suf := fun l => by
    cases l with
    | nil => exact ⟨[], rfl⟩
    | cons a l => obtain ⟨u, hu⟩ := (h a).suf l; exact ⟨a :: u, by show a :: l = a :: (u ++ _); rw [← hu]⟩
  done := fun l m e => by
    cases l with
    | nil => simp at e
    | cons a l => exact (h a).done l m e
  bad := fun l m e => by
    cases l with
    | nil => simp at e
    | cons a l => exact (h a).bad l m e
  start := fun l k e hk => by
    cases l with
    | nil => simp at e
    | cons a l =>
      cases k with
      | zero => rfl
      | succ k => exact (h a).start l k e (by simp at hk ⊢; omega)
  what := fun l => by
    cases l with
    | nil => simp
    | cons a l => exact (h a).what l
theorem Stage.argued (c : Cm) (key : UInt8) : Stage (argued c key) := by
  have drop_lt : ∀ l : List UInt8, l.length < want key → l.drop (want key) = [] := fun l h => List.drop_eq_nil_of_le (by omega)
  constructor
  · intro l e
    unfold Keys.argued at e ⊢
    split at e
    · simp at e
    · split at e
      · simp at e
      · rename_i h1 h2
        rw [if_neg h1, if_neg h2]
        exact drop_lt l (by omega)
  · intro l
    refine ⟨l.take (want key), ?_⟩
    have : (Keys.argued c key l).2.1 = l.drop (want key) := by
      unfold Keys.argued; split
      · rfl
      · split <;> rfl
    rw [this, List.take_append_drop]
  · intro l m e
    unfold Keys.argued at e
    split at e
    · simp at e
    · split at e
      · rename_i h1 h2
        unfold Keys.argued
        rw [List.take_append_of_le_length h2, List.drop_append_of_le_length h2, if_neg h1, if_neg h1, if_pos h2, if_pos (by rw [List.length_append]; omega)]
      · simp at e
  · intro l m e
    unfold Keys.argued at e
    split at e
    · rename_i h1
      unfold Keys.argued
      rw [if_pos (by rw [List.take_append, List.any_append, h1]; rfl)]
    · split at e <;> simp at e
  · intro l k e hk
    unfold Keys.argued at e hk
    split at e
    · simp at e
    · split at e
      · rename_i h1 h2
        rw [if_neg h1, if_pos h2] at hk
        rw [List.length_drop] at hk
        have hk' : k < want key := by omega
        unfold Keys.argued
        have hl : (l.take k).length = k := by rw [List.length_take]; omega
        have ht : (l.take k).take (want key) = (l.take (want key)).take k := by
          rw [List.take_take, List.take_take, Nat.min_comm]
        rw [if_neg, if_neg (by omega)]
        rw [ht]
        intro hb
        apply h1
        rw [List.any_eq_true] at hb ⊢
        obtain ⟨x, hx, hx2⟩ := hb
        exact ⟨x, List.mem_of_mem_take hx, hx2⟩
      · simp at e
  · intro l
    unfold Keys.argued
    split
    · exact Nat.le_refl _
    · split
      · simp
      · simp
theorem cnt_cons (c : UInt8) (l : List UInt8) (n : Nat) : cnt (c :: l) n = if (49 ≤ c.toNat ∧ c.toNat ≤ 57) ∨ (0 < n ∧ c.toNat = 48) then cnt l (min (n * 10 + (c.toNat - 48)) 9999) else (n, c :: l) := by rw [cnt]
theorem cnt_len : ∀ (l : List UInt8) (n : Nat), (cnt l n).2.length ≤ l.length
  | [], n => by simp [cnt]
  | c :: l, n => by
    rw [cnt_cons]
    split
    · have := cnt_len l (min (n * 10 + (c.toNat - 48)) 9999); simp; omega
    · exact Nat.le_refl _
theorem cnt_app : ∀ (l : List UInt8) (n : Nat) (m : List UInt8), (cnt l n).2 ≠ [] → cnt (l ++ m) n = ((cnt l n).1, (cnt l n).2 ++ m)
  | [], n, m, h => absurd rfl h
  | c :: l, n, m, h => by
    rw [cnt_cons] at h
    rw [List.cons_append, cnt_cons, cnt_cons]
    split at h
    · rename_i h1
      rw [if_pos h1, if_pos h1]
      exact cnt_app l _ m h
    · rename_i h1
      rw [if_neg h1, if_neg h1]
      rfl
theorem cnt_suf : ∀ (l : List UInt8) (n : Nat), ∃ u, l = u ++ (cnt l n).2
  | [], n => ⟨[], rfl⟩
  | c :: l, n => by
    rw [cnt_cons]
    split
    · obtain ⟨u, hu⟩ := cnt_suf l (min (n * 10 + (c.toNat - 48)) 9999)
      exact ⟨c :: u, by show c :: l = c :: (u ++ _); rw [← hu]⟩
    · exact ⟨[], rfl⟩
theorem cnt_take : ∀ (l : List UInt8) (n k : Nat), (k + (cnt l n).2.length ≤ l.length → (cnt (l.take k) n).2 = []) ∧ (∀ j, k + (cnt l n).2.length = l.length + (j + 1) → cnt (l.take k) n = ((cnt l n).1, (cnt l n).2.take (j + 1)))
  | [], n, k => by
    rw [List.take_nil]
    exact ⟨fun _ => rfl, fun j _ => rfl⟩
  | c :: l, n, 0 => by
    have := cnt_len (c :: l) n
    exact ⟨fun _ => rfl, fun j h => by omega⟩
  | c :: l, n, k + 1 => by
    rw [List.take_succ_cons, cnt_cons, cnt_cons]
    split
    · have ih := cnt_take l (min (n * 10 + (c.toNat - 48)) 9999) k
      refine ⟨fun h => ih.1 (by simp at h; omega), fun j h => ih.2 j (by simp at h; omega)⟩
    · refine ⟨fun h => by simp at h; omega, fun j h => ?_⟩
      simp at h
      obtain rfl : j = k := by omega
      rw [List.take_succ_cons]
theorem Stage.counted {G : Nat → List UInt8 → Cm × List UInt8 × Nat} (h : ∀ n, Stage (G n)) (h0 : ∀ n, (G n []).2.2 = 0) :
    Stage fun l => G (cnt l 0).1 (cnt l 0).2 where
  more := fun l e => (h _).more _ e
  suf := fun l => by
    obtain ⟨u, hu⟩ := cnt_suf l 0
    obtain ⟨v, hv⟩ := (h (cnt l 0).1).suf (cnt l 0).2
    exact ⟨u ++ v, by rw [List.append_assoc, ← hv, ← hu]⟩
  done := fun l m e => by
    have hne : (cnt l 0).2 ≠ [] := by intro hn; simp only [hn, h0] at e; simp at e
    show G (cnt (l ++ m) 0).1 (cnt (l ++ m) 0).2 = _
    rw [cnt_app l 0 m hne]
    exact (h _).done _ m e
  bad := fun l m e => by
    have hne : (cnt l 0).2 ≠ [] := by intro hn; simp only [hn, h0] at e; simp at e
    show (G (cnt (l ++ m) 0).1 (cnt (l ++ m) 0).2).2.2 = 2
    rw [cnt_app l 0 m hne]
    exact (h _).bad _ m e
  start := fun l k e hk => by
    show (G (cnt (l.take k) 0).1 (cnt (l.take k) 0).2).2.2 = 0
    by_cases hle : k + (cnt l 0).2.length ≤ l.length
    · rw [(cnt_take l 0 k).1 hle]; exact h0 _
    · obtain ⟨j, hj⟩ : ∃ j, k + (cnt l 0).2.length = l.length + (j + 1) := ⟨k + (cnt l 0).2.length - l.length - 1, by omega⟩
      rw [(cnt_take l 0 k).2 j hj]
      show (G (cnt l 0).1 ((cnt l 0).2.take (j + 1))).2.2 = 0
      exact (h _).start _ _ e (by have : k + (G (cnt l 0).1 (cnt l 0).2).2.1.length < l.length := hk; omega)
  what := fun l => (h _).what _
theorem Stage.ite {p : Prop} [Decidable p] {f g : List UInt8 → Cm × List UInt8 × Nat} (hf : p → Stage f) (hg : ¬ p → Stage g) : Stage fun l => if p then f l else g l := by
  by_cases hp : p
  · simpa only [if_pos hp] using hf hp
  · simpa only [if_neg hp] using hg hp
theorem Stage.moved (c : Cm) (op : UInt8) : Stage (moved c op) :=
  Stage.cons (F := fun key l => if key = op then ({ c with move := key.toNat }, l, 1) else if goes key then Keys.argued { c with move := key.toNat } key l else (Cm.zero, l, 2))
    fun key => Stage.ite (fun _ => Stage.ready _) fun _ => Stage.ite (fun _ => Stage.argued _ _) fun _ => Stage.wrong _
theorem Stage.opped (reg n : Nat) : Stage (opped reg n) :=
  Stage.cons (F := fun op l => if [100, 121, 99].contains op then Keys.moved ⟨reg, if 0 < (cnt l 0).1 then min (max n 1 * (cnt l 0).1) 9999 else n, op.toNat, 0, []⟩ op (cnt l 0).2
    else if known op then Keys.argued ⟨reg, n, op.toNat, 0, []⟩ op l else (Cm.zero, l, 2))
    fun op => Stage.ite (fun _ => Stage.counted (G := fun k l => Keys.moved ⟨reg, if 0 < k then min (max n 1 * k) 9999 else n, op.toNat, 0, []⟩ op l) (fun _ => Stage.moved _ _) (fun _ => rfl))
      fun _ => Stage.ite (fun _ => Stage.argued _ _) fun _ => Stage.wrong _
theorem Stage.numbered (reg : Nat) : Stage (numbered reg) :=
  Stage.counted (G := fun k l => Keys.opped reg k l) (fun _ => Stage.opped _ _) (fun _ => rfl)
/-- Parse, as parts one behind the other -/
theorem parse_eq (l : List UInt8) : parse l = if l.head? = some 34 then (match l.drop 1 with | [] => (Cm.zero, [], 0) | r :: l => if regOk r then numbered r.toNat l else (Cm.zero, l, 2)) else numbered 0 l := by
  unfold parse
  split
  · rename_i l'
    simp only [List.head?_cons, if_pos, List.drop_succ_cons, List.drop_zero]
    cases l' <;> rfl
  · rename_i hno
    rw [if_neg]
    intro h
    cases l with
    | nil => simp at h
    | cons c l => simp at h; subst h; exact hno l rfl
/-- what stands behind the sign of a register -/
def quoted (l : List UInt8) : Cm × List UInt8 × Nat := match l with | [] => (Cm.zero, [], 0) | r :: l => if regOk r then numbered r.toNat l else (Cm.zero, l, 2)
theorem parse_quoted (l : List UInt8) : parse (34 :: l) = quoted l := by
  rw [parse_eq]
  rfl
theorem Stage.parse : Stage parse := by
  have hq : Stage fun l => match l with | [] => (Cm.zero, [], 0) | r :: l => if regOk r then Keys.numbered r.toNat l else (Cm.zero, l, 2) :=
    Stage.cons (F := fun r l => if regOk r then Keys.numbered r.toNat l else (Cm.zero, l, 2)) fun r => Stage.ite (fun _ => Stage.numbered _) fun _ => Stage.wrong _
  have hn := Stage.numbered 0
  have key : Stage fun l => match l with | [] => (Cm.zero, [], 0) | a :: l => if a = 34 then (match l with | [] => (Cm.zero, [], 0) | r :: l => if regOk r then Keys.numbered r.toNat l else (Cm.zero, l, 2)) else Keys.numbered 0 (a :: l) := by
    constructor
    · intro l e
      cases l with
      | nil => rfl
      | cons a l =>
        simp only at e ⊢
        split at e
        · rename_i h; rw [if_pos h]; exact hq.more l e
        · rename_i h; rw [if_neg h]; exact hn.more _ e
    · intro l
      cases l with
      | nil => exact ⟨[], rfl⟩
      | cons a l =>
        simp only
        split
        · obtain ⟨u, hu⟩ := hq.suf l; exact ⟨a :: u, by show a :: l = a :: (u ++ _); rw [← hu]⟩
        · exact hn.suf _
    · intro l m e
      cases l with
      | nil => simp at e
      | cons a l =>
        simp only [List.cons_append] at e ⊢
        split at e
        · rename_i h; rw [if_pos h, if_pos h]; exact hq.done l m e
        · rename_i h; rw [if_neg h, if_neg h]; exact hn.done (a :: l) m e
    · intro l m e
      cases l with
      | nil => simp at e
      | cons a l =>
        simp only [List.cons_append] at e ⊢
        split at e
        · rename_i h; rw [if_pos h]; exact hq.bad l m e
        · rename_i h; rw [if_neg h]; exact hn.bad (a :: l) m e
    · intro l k e hk
      cases l with
      | nil => simp at e
      | cons a l =>
        cases k with
        | zero => rfl
        | succ k =>
          simp only [List.take_succ_cons] at e hk ⊢
          split at e
          · rename_i h
            rw [if_pos h] at hk ⊢
            exact hq.start l k e (by simp only [List.length_cons] at hk; omega)
          · rename_i h
            rw [if_neg h] at hk ⊢
            have := hn.start (a :: l) (k + 1) e hk
            rwa [List.take_succ_cons] at this
    · intro l
      cases l with
      | nil => simp
      | cons a l =>
        simp only
        split
        · exact hq.what l
        · exact hn.what _
  have he : Keys.parse = fun l => match l with | [] => (Cm.zero, [], 0) | a :: l => if a = 34 then (match l with | [] => (Cm.zero, [], 0) | r :: l => if regOk r then Keys.numbered r.toNat l else (Cm.zero, l, 2)) else Keys.numbered 0 (a :: l) := by
    funext l
    rw [parse_eq]
    cases l with
    | nil => rfl
    | cons a l =>
      simp only [List.head?_cons, Option.some.injEq, List.drop_succ_cons, List.drop_zero]
  rw [he]
  exact key
end Keys
end Go.Proofs.Ytenhblpegobbjaa
