/- How many unlike parts a text has; one byte more. Plain. -/
import Derived.Test.YtenhblpegobbjaaPlainSuffix2
namespace Go.Proofs.Ytenhblpegobbjaa
set_option linter.unusedVariables false
set_option linter.unusedSimpArgs false
namespace Suf
variable (s : List UInt8)
theorem nodup_le {α : Type} [DecidableEq α] : ∀ (L M : List α), L.Nodup → (∀ x ∈ L, x ∈ M) → L.length ≤ M.length
  | [], M, _, _ => by simp
  | a :: L, M, hn, hs => by
    obtain ⟨h1, h2⟩ := List.nodup_cons.1 hn
    have ha : a ∈ M := hs a List.mem_cons_self
    have h3 := nodup_le L (M.erase a) h2 (fun x hx => by
      have hne : x ≠ a := fun e => h1 (e ▸ hx)
      exact (List.mem_erase_of_ne hne).2 (hs x (List.mem_cons_of_mem _ hx)))
    rw [List.length_erase_of_mem ha] at h3
    have := List.length_pos_of_mem ha
    rw [List.length_cons]
    omega
theorem fm_ge : ∀ m i, i + (m + 1) ≤ s.length → 257 ^ m ≤ fm s (m + 1) i := by
  intro m i h
  rw [fm_head]
  have := cs_pos s i (by omega)
  have h2 : 1 * 257 ^ m ≤ cs s i * 257 ^ m := Nat.mul_le_mul_right _ this
  omega
theorem fm_size {m m' i i' : Nat} (h1 : 0 < m) (h2 : 0 < m') (hi : i + m ≤ s.length) (hi' : i' + m' ≤ s.length) (e : fm s m i = fm s m' i') : m = m' := by
  obtain ⟨a, rfl⟩ : ∃ a, m = a + 1 := ⟨m - 1, by omega⟩
  obtain ⟨b, rfl⟩ : ∃ b, m' = b + 1 := ⟨m' - 1, by omega⟩
  have g1 := fm_ge s a i hi; have g2 := fm_ge s b i' hi'
  have l1 := fm_lt s (a + 1) i; have l2 := fm_lt s (b + 1) i'
  rcases Nat.lt_trichotomy a b with h | h | h
  · have := Nat.pow_le_pow_right (show 0 < 257 by decide) (show a + 1 ≤ b by omega)
    omega
  · rw [h]
  · have := Nat.pow_le_pow_right (show 0 < 257 by decide) (show b + 1 ≤ a by omega)
    omega
theorem lcp_room {i j m : Nat} (h : IsLcp s i j m) (hi : i ≤ s.length) : i + m ≤ s.length := by
  rcases Nat.eq_zero_or_pos m with h0 | h0
  · omega
  · have := (h.1 (m - 1) (by omega)).1
    omega
theorem same_of_fm {i j m : Nat} (h : fm s m i = fm s m j) (hi : i + m ≤ s.length) : ∀ t, t < m → same s i j t := fun t ht => (same_cs s).2 ⟨by omega, fm_eq s m h t ht⟩
theorem lcp_ge {i j m k : Nat} (h : IsLcp s i j k) (hs : ∀ t, t < m → same s i j t) : m ≤ k := Nat.le_of_not_lt fun h9 => h.2 (hs k h9)
/-- the parts that begin with an end but not with the one ahead of it -/
def grp (A C : List Nat) (x : Nat) : List Nat := (List.range (s.length - A.getD x 0 - C.getD x 0)).map fun t => fm s (C.getD x 0 + 1 + t) (A.getD x 0)
/-- all parts -/
def parts (A C : List Nat) : List Nat := (List.range s.length).flatMap (grp s A C)
theorem common_room {A C : List Nat} (hS : Sorted s A) (hC : Commons s A C) (x : Nat) (hx : x < s.length) : A.getD x 0 + C.getD x 0 ≤ s.length := by
  have hm := hS.mem s x hx
  cases x with
  | zero => rw [hC.2.1]; omega
  | succ x => exact lcp_room s (hC.2.2 x hx) (Nat.le_of_lt hm)
theorem mem_grp {A C : List Nat} {x v : Nat} : v ∈ grp s A C x ↔ ∃ m, C.getD x 0 < m ∧ m ≤ s.length - A.getD x 0 ∧ v = fm s m (A.getD x 0) := by
  unfold grp
  rw [List.mem_map]
  constructor
  · rintro ⟨t, ht, rfl⟩
    rw [List.mem_range] at ht
    exact ⟨C.getD x 0 + 1 + t, by omega, by omega, rfl⟩
  · rintro ⟨m, h1, h2, rfl⟩
    exact ⟨m - C.getD x 0 - 1, List.mem_range.2 (by omega), by congr 1; omega⟩
theorem mem_parts {A C : List Nat} (hS : Sorted s A) (hC : Commons s A C) (v : Nat) : v ∈ parts s A C ↔ ∃ i m, 0 < m ∧ i + m ≤ s.length ∧ v = fm s m i := by
  unfold parts
  rw [List.mem_flatMap]
  constructor
  · rintro ⟨x, hx, hv⟩
    rw [List.mem_range] at hx
    obtain ⟨m, h1, h2, rfl⟩ := (mem_grp s).1 hv
    have := hS.mem s x hx
    exact ⟨_, m, by omega, by omega, rfl⟩
  · rintro ⟨i, m, h1, h2, rfl⟩
    have key : ∀ x, x < s.length → ∀ i, A.getD x 0 = i → i + m ≤ s.length → ∃ y, y < s.length ∧ fm s m i ∈ grp s A C y := by
      intro x
      induction x with
      | zero =>
        intro hx i hi him
        refine ⟨0, hx, (mem_grp s).2 ⟨m, by rw [hC.2.1]; exact h1, by omega, by rw [hi]⟩⟩
      | succ x ih =>
        intro hx i hi him
        by_cases hc : C.getD (x + 1) 0 < m
        · exact ⟨x + 1, hx, (mem_grp s).2 ⟨m, hc, by omega, by rw [hi]⟩⟩
        · have hl := hC.2.2 x hx
          rw [hi] at hl
          have hsame : ∀ t, t < m → same s i (A.getD x 0) t := fun t ht => hl.1 t (by omega)
          have he := fm_same s m hsame
          have hroom : A.getD x 0 + m ≤ s.length := by
            have := (hsame (m - 1) (by omega)).2.1
            omega
          obtain ⟨y, hy, hv⟩ := ih (by omega) _ rfl hroom
          exact ⟨y, hy, by rw [he]; exact hv⟩
    obtain ⟨x, hx, ex⟩ := hS.find s i (by omega)
    obtain ⟨y, hy, hv⟩ := key x hx i ex h2
    exact ⟨y, List.mem_range.2 hy, hv⟩
theorem grp_nodup {A C : List Nat} (hS : Sorted s A) (x : Nat) (hx : x < s.length) : (grp s A C x).Nodup := by
  unfold grp
  unfold List.Nodup
  rw [List.pairwise_map]
  have hm := hS.mem s x hx
  refine List.Pairwise.imp_of_mem ?_ (List.pairwise_lt_range (n := s.length - A.getD x 0 - C.getD x 0))
  intro a b ha hb hab e
  rw [List.mem_range] at ha hb
  have := fm_size s (m := C.getD x 0 + 1 + a) (m' := C.getD x 0 + 1 + b) (by omega) (by omega) (by omega) (by omega) e
  omega
theorem parts_nodup {A C : List Nat} (hS : Sorted s A) (hC : Commons s A C) : (parts s A C).Nodup := by
  unfold parts
  unfold List.Nodup
  rw [List.pairwise_flatMap]
  refine ⟨fun x hx => grp_nodup s hS x (List.mem_range.1 hx), ?_⟩
  refine List.Pairwise.imp_of_mem ?_ (List.pairwise_lt_range (n := s.length))
  intro x y hx hy hxy u hu v hv e
  rw [List.mem_range] at hx hy
  obtain ⟨m, h1, h2, rfl⟩ := (mem_grp s).1 hu
  obtain ⟨m', h1', h2', rfl⟩ := (mem_grp s).1 hv
  have a1 := hS.mem s x hx; have a2 := hS.mem s y hy
  have hmm := fm_size s (by omega) (by omega) (by omega) (by omega) e
  subst hmm
  obtain ⟨y', rfl⟩ : ∃ y', y = y' + 1 := ⟨y - 1, by omega⟩
  have hAl := hS.length
  have g1 := sorted_le s hS x y' (by omega) (by omega)
  have g2 := sorted_le s hS y' (y' + 1) (by omega) (by omega)
  obtain ⟨d, hd⟩ : ∃ d, s.length = m + d := ⟨s.length - m, by omega⟩
  have g1' : fm s m (A.getD x 0) ≤ fm s m (A.getD y' 0) := by rw [hd] at g1; exact fm_pre s d g1
  have g2' : fm s m (A.getD y' 0) ≤ fm s m (A.getD (y' + 1) 0) := by rw [hd] at g2; exact fm_pre s d g2
  have he : fm s m (A.getD (y' + 1) 0) = fm s m (A.getD y' 0) := by omega
  have := lcp_ge s (hC.2.2 y' hy) (same_of_fm s he (by omega))
  omega
theorem sum_perm {L M : List Nat} (h : L.Perm M) : L.sum = M.sum := by
  induction h with
  | nil => rfl
  | cons x _ ih => simp [ih]
  | swap x y l => simp; omega
  | trans _ _ ih1 ih2 => rw [ih1, ih2]
theorem sum_range : ∀ n, 2 * ((List.range n).map fun i => n - i).sum = n * (n + 1) := by
  have key : ∀ n k, n ≤ k → 2 * ((List.range n).map fun i => k - i).sum + n * n = 2 * n * k + n := by
    intro n
    induction n with
    | zero => intro k _; simp
    | succ n ih =>
      intro k hk
      rw [List.range_succ, List.map_append, List.sum_append, List.map_singleton, List.sum_singleton]
      have h := ih k (by omega)
      have e1 : (n + 1) * (n + 1) = n * n + 2 * n + 1 := by rw [Nat.add_mul, Nat.mul_add, Nat.mul_add]; omega
      have e2 : 2 * (n + 1) * k = 2 * n * k + 2 * k := by rw [Nat.mul_add, Nat.add_mul]
      rw [e1, e2]
      omega
  intro n
  have h := key n n (Nat.le_refl _)
  have e1 : 2 * n * n = n * n + n * n := by rw [Nat.mul_assoc, Nat.two_mul]
  have e2 : n * (n + 1) = n * n + n := by rw [Nat.mul_add, Nat.mul_one]
  rw [e1] at h
  rw [e2]
  omega
theorem map_getD (A : List Nat) (f : Nat → Nat) : A.map f = (List.range A.length).map fun x => f (A.getD x 0) := by
  apply List.ext_getElem
  · simp
  · intro i h1 h2
    rw [List.length_map] at h1
    rw [List.getElem_map, List.getElem_map, List.getElem_range, List.getD_eq_getElem?_getD, List.getElem?_eq_getElem h1]; rfl
theorem parts_length {A C : List Nat} (hS : Sorted s A) (hC : Commons s A C) : (parts s A C).length + C.sum = s.length * (s.length + 1) / 2 := by
  have h1 : (parts s A C).length = ((List.range s.length).map fun x => s.length - A.getD x 0 - C.getD x 0).sum := by
    unfold parts
    rw [List.length_flatMap]
    congr 1
    apply List.map_congr_left
    intro x _
    simp [grp]
  have h2 : C.sum = ((List.range s.length).map fun x => C.getD x 0).sum := by
    have := map_getD C id
    rw [List.map_id, hC.1] at this
    exact congrArg List.sum this
  have h3 : ∀ k, k ≤ s.length → ((List.range k).map fun x => s.length - A.getD x 0 - C.getD x 0).sum + ((List.range k).map fun x => C.getD x 0).sum = ((List.range k).map fun x => s.length - A.getD x 0).sum := by
    intro k
    induction k with
    | zero => intro _; rfl
    | succ k ih =>
      intro hk
      rw [List.range_succ, List.map_append, List.map_append, List.map_append, List.sum_append, List.sum_append, List.sum_append]
      have := ih (by omega)
      have hr := common_room s hS hC k (by omega)
      simp only [List.map_singleton, List.sum_singleton]
      omega
  have h4 : ((List.range s.length).map fun x => s.length - A.getD x 0).sum = ((List.range s.length).map fun i => s.length - i).sum := by
    have e := map_getD A (fun i => s.length - i)
    rw [hS.length] at e
    rw [← e]
    exact sum_perm (hS.1.map _)
  have h5 := sum_range s.length
  have h6 := h3 s.length (Nat.le_refl _)
  rw [h1, h2, h6, h4]
  omega
/-- one byte more -/
theorem cs_more (c : UInt8) (x : Nat) (h : x < s.length) : cs (s ++ [c]) x = cs s x := by
  unfold cs
  rw [if_pos h, if_pos (by rw [List.length_append]; omega), List.getD_eq_getElem?_getD, List.getD_eq_getElem?_getD, List.getElem?_append_left h]
theorem fm_more (c : UInt8) : ∀ m i, i + m ≤ s.length → fm (s ++ [c]) m i = fm s m i := by
  intro m
  induction m with
  | zero => intro i _; rfl
  | succ m ih =>
    intro i h
    unfold fm
    rw [ih i (by omega), cs_more s c _ (by omega)]
theorem parts_more (c : UInt8) {A C A' C' : List Nat} (hS : Sorted s A) (hC : Commons s A C) (hS' : Sorted (s ++ [c]) A') (hC' : Commons (s ++ [c]) A' C') :
    (parts s A C).length + 1 ≤ (parts (s ++ [c]) A' C').length ∧ (parts (s ++ [c]) A' C').length ≤ (parts s A C).length + s.length + 1 := by
  have hl : (s ++ [c]).length = s.length + 1 := by simp
  constructor
  · have h := nodup_le (fm (s ++ [c]) (s.length + 1) 0 :: parts s A C) (parts (s ++ [c]) A' C') (List.nodup_cons.2 ⟨?_, parts_nodup s hS hC⟩) ?_
    · rw [List.length_cons] at h; exact h
    · intro hm
      obtain ⟨i, m, h1, h2, e⟩ := (mem_parts s hS hC _).1 hm
      rw [← fm_more s c m i h2] at e
      have := fm_size (s ++ [c]) (m := s.length + 1) (m' := m) (by omega) h1 (by rw [hl]; omega) (by rw [hl]; omega) e
      omega
    · intro v hv
      rcases List.mem_cons.1 hv with rfl | hv
      · exact (mem_parts _ hS' hC' _).2 ⟨0, s.length + 1, by omega, by rw [hl]; omega, rfl⟩
      · obtain ⟨i, m, h1, h2, rfl⟩ := (mem_parts s hS hC _).1 hv
        exact (mem_parts _ hS' hC' _).2 ⟨i, m, h1, by rw [hl]; omega, (fm_more s c m i h2).symm⟩
  · have h := nodup_le (parts (s ++ [c]) A' C') (parts s A C ++ (List.range (s.length + 1)).map fun i => fm (s ++ [c]) (s.length + 1 - i) i) (parts_nodup _ hS' hC') ?_
    · rw [List.length_append, List.length_map, List.length_range] at h; omega
    · intro v hv
      obtain ⟨i, m, h1, h2, rfl⟩ := (mem_parts _ hS' hC' _).1 hv
      rw [hl] at h2
      by_cases hm : i + m ≤ s.length
      · exact List.mem_append_left _ ((mem_parts s hS hC _).2 ⟨i, m, h1, hm, fm_more s c m i hm⟩)
      · exact List.mem_append_right _ (List.mem_map.2 ⟨i, List.mem_range.2 (by omega), by congr 1; omega⟩)
end Suf
end Go.Proofs.Ytenhblpegobbjaa
