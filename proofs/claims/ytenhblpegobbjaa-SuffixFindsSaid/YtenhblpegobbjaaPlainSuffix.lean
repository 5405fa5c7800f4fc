/- The ends of a text in their order, by doubling: numbers of the first so many bytes. Plain. -/
namespace Go.Proofs.Ytenhblpegobbjaa
set_option linter.unusedVariables false
set_option linter.unusedSimpArgs false
namespace Suf
variable (s : List UInt8)
/-- a byte and one, or nothing behind the end -/
def cs (x : Nat) : Nat := if x < s.length then (s.getD x 0).toNat + 1 else 0
/-- the first m bytes from i on, as a number of base 257 -/
def fm : Nat → Nat → Nat
  | 0, _ => 0
  | m + 1, i => fm m i * 257 + cs s (i + m)
theorem cs_le (x : Nat) : cs s x ≤ 256 := by
  unfold cs
  split
  · have := (s.getD x 0).toNat_lt; omega
  · omega
theorem cs_pos (x : Nat) (h : x < s.length) : 0 < cs s x := by unfold cs; rw [if_pos h]; omega
theorem cs_end (x : Nat) (h : s.length ≤ x) : cs s x = 0 := by unfold cs; rw [if_neg (by omega)]
theorem fm_lt : ∀ m i, fm s m i < 257 ^ m := by
  intro m
  induction m with
  | zero => intro i; simp [fm]
  | succ m ih =>
    intro i
    have h1 := ih i
    have h2 := cs_le s (i + m)
    unfold fm
    rw [Nat.pow_succ]
    omega
theorem fm_add (a : Nat) : ∀ b i, fm s (a + b) i = fm s a i * 257 ^ b + fm s b (i + a) := by
  intro b
  induction b with
  | zero => intro i; simp [fm]
  | succ b ih =>
    intro i
    show fm s (a + b) i * 257 + cs s (i + (a + b)) = _
    rw [ih i]
    show _ = fm s a i * 257 ^ (b + 1) + (fm s b (i + a) * 257 + cs s (i + a + b))
    rw [Nat.pow_succ, Nat.add_mul, Nat.mul_assoc, Nat.add_assoc i a b]
    omega
theorem fm_end (i : Nat) (h : s.length ≤ i) : ∀ m, fm s m i = 0 := by
  intro m
  induction m with
  | zero => rfl
  | succ m ih => unfold fm; rw [ih, cs_end s _ (by omega)]
theorem fm_pos (i : Nat) (h : i < s.length) (m : Nat) (hm : 0 < m) : 0 < fm s m i := by
  obtain ⟨m, rfl⟩ : ∃ m', m = 1 + m' := ⟨m - 1, by omega⟩
  rw [fm_add]
  have h1 : fm s 1 i = cs s i := by unfold fm; simp [fm]
  have h2 : 0 < fm s 1 i * 257 ^ m := Nat.mul_pos (by rw [h1]; exact cs_pos s i h) (Nat.pow_pos (by decide))
  omega
theorem fm_one (i : Nat) : fm s 1 i = cs s i := by unfold fm; simp [fm]
theorem split_eq {a b c d K : Nat} (hc : c < K) (hd : d < K) (h : a * K + c = b * K + d) : a = b ∧ c = d := by
  have hK : 0 < K := by omega
  have h1 : (a * K + c) / K = a := by rw [Nat.mul_comm, Nat.mul_add_div hK, Nat.div_eq_of_lt hc]; rfl
  have h2 : (b * K + d) / K = b := by rw [Nat.mul_comm, Nat.mul_add_div hK, Nat.div_eq_of_lt hd]; rfl
  rw [h] at h1
  have e : a = b := by omega
  subst e
  exact ⟨rfl, by omega⟩
theorem split_lt {a b c d K : Nat} (hc : c < K) (hd : d < K) : a * K + c < b * K + d ↔ a < b ∨ a = b ∧ c < d := by
  rcases Nat.lt_trichotomy a b with h | h | h
  · have : (a + 1) * K ≤ b * K := Nat.mul_le_mul_right _ h
    rw [Nat.add_mul, Nat.one_mul] at this
    constructor
    · intro _; exact .inl h
    · intro _; omega
  · subst h
    constructor
    · intro h; exact .inr ⟨rfl, by omega⟩
    · rintro (h | ⟨_, h⟩) <;> omega
  · have : (b + 1) * K ≤ a * K := Nat.mul_le_mul_right _ h
    rw [Nat.add_mul, Nat.one_mul] at this
    constructor
    · intro _; omega
    · rintro (h | ⟨_, _⟩) <;> omega
theorem fm_eq {i j : Nat} : ∀ m, fm s m i = fm s m j → ∀ t, t < m → cs s (i + t) = cs s (j + t) := by
  intro m
  induction m with
  | zero => intro _ t ht; omega
  | succ m ih =>
    intro h t ht
    unfold fm at h
    obtain ⟨h1, h2⟩ := split_eq (by have := cs_le s (i + m); omega) (by have := cs_le s (j + m); omega) h
    by_cases e : t = m
    · subst e; exact h2
    · exact ih h1 t (by omega)
theorem fm_ne {m i j : Nat} (hm : s.length ≤ m) (hij : i < j) (hj : j < s.length) : fm s m i ≠ fm s m j := by
  intro h
  have h1 := fm_eq s m h (s.length - j) (by omega)
  rw [cs_end s (j + (s.length - j)) (by omega)] at h1
  have := cs_pos s (i + (s.length - j)) (by omega)
  omega
/-- one end is below another -/
def below (i j : Nat) : Prop := ∃ m, fm s m i < fm s m j
theorem fm_head (m i : Nat) : fm s (m + 1) i = cs s i * 257 ^ m + fm s m (i + 1) := by
  rw [Nat.add_comm, fm_add, fm_one]
theorem lt_list : ∀ m i j, fm s m i < fm s m j → s.drop i < s.drop j := by
  intro m
  induction m with
  | zero => intro i j h; simp [fm] at h
  | succ m ih =>
    intro i j h
    have hj : j < s.length := by
      refine Nat.lt_of_not_le fun h9 => ?_
      rw [fm_end s j h9] at h; omega
    by_cases hi : i < s.length
    · rw [fm_head, fm_head, split_lt (fm_lt s m _) (fm_lt s m _)] at h
      rw [List.drop_eq_getElem_cons hi, List.drop_eq_getElem_cons hj]
      have ei : cs s i = (s[i]).toNat + 1 := by unfold cs; rw [if_pos hi, List.getD_eq_getElem?_getD, List.getElem?_eq_getElem hi]; rfl
      have ej : cs s j = (s[j]).toNat + 1 := by unfold cs; rw [if_pos hj, List.getD_eq_getElem?_getD, List.getElem?_eq_getElem hj]; rfl
      rcases h with h | ⟨h1, h2⟩
      · refine List.Lex.rel ?_
        rw [UInt8.lt_iff_toNat_lt]; omega
      · have e : s[i] = s[j] := UInt8.toNat_inj.1 (by omega)
        rw [e]
        exact List.Lex.cons (ih _ _ h2)
    · rw [List.drop_eq_nil_of_le (by omega), List.drop_eq_getElem_cons hj]
      exact List.Lex.nil
/-- ranks by the first k bytes -/
def RankOk (k : Nat) (R : List Nat) : Prop := R.length = s.length ∧ ∀ i j, i < s.length → j < s.length → (R.getD i 0 < R.getD j 0 ↔ fm s k i < fm s k j)
theorem RankOk.eq {k : Nat} {R : List Nat} (h : RankOk s k R) {i j : Nat} (hi : i < s.length) (hj : j < s.length) : R.getD i 0 = R.getD j 0 ↔ fm s k i = fm s k j := by
  have h1 := h.2 i j hi hj
  have h2 := h.2 j i hj hi
  constructor
  · intro e; omega
  · intro e; omega
theorem rank_one : RankOk s 1 (s.map (·.toNat)) := by
  refine ⟨by simp, fun i j hi hj => ?_⟩
  rw [fm_one, fm_one]
  unfold cs
  rw [if_pos hi, if_pos hj]
  simp only [List.getD_eq_getElem?_getD, List.getElem?_map, List.getElem?_eq_getElem hi, List.getElem?_eq_getElem hj, Option.map_some, Option.getD_some]
  omega
/-- the second half of a key -/
def key2 (k : Nat) (R : List Nat) (i : Nat) : Nat := if i + k < s.length then R.getD (i + k) 0 + 1 else 0
/-- how two ends are compared in a round -/
def lessK (k : Nat) (R : List Nat) (i j : Nat) : Prop := R.getD i 0 < R.getD j 0 ∨ R.getD i 0 = R.getD j 0 ∧ key2 s k R i < key2 s k R j
theorem lessK_iff {k : Nat} {R : List Nat} (h : RankOk s k R) (hk : 0 < k) {i j : Nat} (hi : i < s.length) (hj : j < s.length) : lessK s k R i j ↔ fm s (2 * k) i < fm s (2 * k) j := by
  rw [Nat.two_mul, fm_add, fm_add, split_lt (fm_lt s k _) (fm_lt s k _)]
  unfold lessK
  rw [h.2 i j hi hj, h.eq s hi hj]
  have h2 : key2 s k R i < key2 s k R j ↔ fm s k (i + k) < fm s k (j + k) := by
    unfold key2
    by_cases h1 : i + k < s.length
    · by_cases h2 : j + k < s.length
      · rw [if_pos h1, if_pos h2, ← h.2 _ _ h1 h2]; omega
      · rw [if_pos h1, if_neg h2, fm_end s (j + k) (by omega)]; omega
    · by_cases h2 : j + k < s.length
      · have := fm_pos s (j + k) h2 k hk
        rw [if_neg h1, if_pos h2, fm_end s (i + k) (by omega)]; omega
      · rw [if_neg h1, if_neg h2, fm_end s (i + k) (by omega), fm_end s (j + k) (by omega)]
  rw [h2]
theorem keys_eq {k : Nat} {R : List Nat} (h : RankOk s k R) (hk : 0 < k) {i j : Nat} (hi : i < s.length) (hj : j < s.length) : (R.getD i 0 = R.getD j 0 ∧ key2 s k R i = key2 s k R j) ↔ fm s (2 * k) i = fm s (2 * k) j := by
  have h1 := lessK_iff s h hk hi hj
  have h2 := lessK_iff s h hk hj hi
  unfold lessK at h1 h2
  constructor
  · intro e; omega
  · intro e; omega
/-- how many unlike ones stand up to a place of a row of ends -/
def cnt (g : Nat → Nat) (A : List Nat) : Nat → Nat
  | 0 => 0
  | x + 1 => cnt g A x + if g (A.getD x 0) = g (A.getD (x + 1) 0) then 0 else 1
theorem cnt_mono (g : Nat → Nat) (A : List Nat) (x : Nat) : ∀ d, cnt g A x ≤ cnt g A (x + d) := by
  intro d
  induction d with
  | zero => exact Nat.le_refl _
  | succ d ih => show _ ≤ cnt g A (x + d) + _; omega
theorem cnt_le (g : Nat → Nat) (A : List Nat) : ∀ x, cnt g A x ≤ x := by
  intro x
  induction x with
  | zero => exact Nat.le_refl _
  | succ x ih => unfold cnt; split <;> omega
theorem cnt_lt (g : Nat → Nat) (A : List Nat) (hs : ∀ x y, x ≤ y → y < A.length → g (A.getD x 0) ≤ g (A.getD y 0)) (x : Nat) : ∀ d, x + d < A.length → (cnt g A x < cnt g A (x + d) ↔ g (A.getD x 0) < g (A.getD (x + d) 0)) := by
  intro d
  induction d with
  | zero => intro _; simp
  | succ d ih =>
    intro hl
    have h1 := ih (by omega)
    have h2 := hs x (x + d) (by omega) (by omega)
    have h3 := hs (x + d) (x + d + 1) (by omega) (by omega)
    have h4 := cnt_mono g A x d
    show cnt g A x < cnt g A (x + d) + (if g (A.getD (x + d) 0) = g (A.getD (x + d + 1) 0) then 0 else 1) ↔ g (A.getD x 0) < g (A.getD (x + d + 1) 0)
    split
    · rename_i e; omega
    · rename_i e; omega
theorem cnt_full (g : Nat → Nat) (A : List Nat) : ∀ x, cnt g A x = x → ∀ y, y < x → g (A.getD y 0) ≠ g (A.getD (y + 1) 0) := by
  intro x
  induction x with
  | zero => intro _ y h; omega
  | succ x ih =>
    intro h y hy
    unfold cnt at h
    have := cnt_le g A x
    split at h
    · omega
    · rename_i hne
      by_cases e : y = x
      · subst e; exact hne
      · exact ih (by omega) y (by omega)
/-- the new ranks are the ranks by twice as many bytes -/
theorem rank_next {k : Nat} {A N : List Nat} (hp : A.Perm (List.range s.length)) (hs : ∀ x y, x ≤ y → y < A.length → fm s (2 * k) (A.getD x 0) ≤ fm s (2 * k) (A.getD y 0)) (hN : N.length = s.length) (hc : ∀ x, x < A.length → N.getD (A.getD x 0) 0 = cnt (fm s (2 * k)) A x) : RankOk s (2 * k) N := by
  refine ⟨hN, fun i j hi hj => ?_⟩
  have hfind : ∀ i, i < s.length → ∃ x, x < A.length ∧ A.getD x 0 = i := by
    intro i hi
    have hm : i ∈ A := hp.mem_iff.2 (List.mem_range.2 hi)
    obtain ⟨x, hx, e⟩ := List.getElem_of_mem hm
    exact ⟨x, hx, by rw [List.getD_eq_getElem?_getD, List.getElem?_eq_getElem hx]; exact e⟩
  obtain ⟨x, hx, rfl⟩ := hfind i hi
  obtain ⟨y, hy, rfl⟩ := hfind j hj
  rw [hc x hx, hc y hy]
  rcases Nat.le_total x y with h | h
  · obtain ⟨d, rfl⟩ : ∃ d, y = x + d := ⟨y - x, by omega⟩
    exact cnt_lt _ A hs x d hy
  · obtain ⟨d, rfl⟩ : ∃ d, x = y + d := ⟨x - y, by omega⟩
    have h1 := cnt_mono (fm s (2 * k)) A y d
    have h2 := hs y (y + d) (by omega) hx
    constructor <;> intro h <;> omega
/-- the ends in their order -/
def Sorted (A : List Nat) : Prop := A.Perm (List.range s.length) ∧ ∃ m, ∀ x y, x < y → y < A.length → fm s m (A.getD x 0) < fm s m (A.getD y 0)
theorem sorted_end {k : Nat} {A : List Nat} (hp : A.Perm (List.range s.length)) (hs : ∀ x y, x ≤ y → y < A.length → fm s (2 * k) (A.getD x 0) ≤ fm s (2 * k) (A.getD y 0)) (hr : s.length ≤ cnt (fm s (2 * k)) A (s.length - 1) + 1) : Sorted s A := by
  refine ⟨hp, 2 * k, fun x y hxy hy => ?_⟩
  have hl : A.length = s.length := by rw [hp.length_eq, List.length_range]
  have hle := cnt_le (fm s (2 * k)) A (s.length - 1)
  have hf := cnt_full (fm s (2 * k)) A (s.length - 1) (by omega)
  have h1 := hs x (x + 1) (by omega) (by omega)
  have h2 := hf x (by omega)
  have h3 := hs (x + 1) y (by omega) hy
  omega
/-- if not all are unlike there are more bytes -/
theorem go_on {k : Nat} {A : List Nat} (hp : A.Perm (List.range s.length)) (hr : cnt (fm s (2 * k)) A (s.length - 1) + 1 < s.length) : 2 * k < s.length := by
  refine Nat.lt_of_not_le fun h9 => ?_
  have hl : A.length = s.length := by rw [hp.length_eq, List.length_range]
  have hnd : A.Nodup := hp.nodup_iff.2 List.nodup_range
  have hmem : ∀ x, x < A.length → A.getD x 0 < s.length := by
    intro x hx
    rw [List.getD_eq_getElem?_getD, List.getElem?_eq_getElem hx]
    exact List.mem_range.1 (hp.mem_iff.1 (List.getElem_mem hx))
  have key : ∀ x, x < s.length → cnt (fm s (2 * k)) A x = x := by
    intro x
    induction x with
    | zero => intro _; rfl
    | succ x ih =>
      intro hx
      unfold cnt
      rw [ih (by omega), if_neg]
      intro e
      have hx1 : x < A.length := by omega
      have hx2 : x + 1 < A.length := by omega
      have hne : A.getD x 0 ≠ A.getD (x + 1) 0 := by
        rw [List.getD_eq_getElem?_getD, List.getElem?_eq_getElem hx1, List.getD_eq_getElem?_getD, List.getElem?_eq_getElem hx2]
        exact List.pairwise_iff_getElem.1 hnd x (x + 1) hx1 hx2 (by omega)
      rcases Nat.lt_or_gt_of_ne hne with h | h
      · exact fm_ne s h9 h (hmem _ hx2) e
      · exact fm_ne s h9 h (hmem _ hx1) e.symm
  rw [key _ (by omega)] at hr
  omega
end Suf
end Go.Proofs.Ytenhblpegobbjaa
