/- States and ways between them: the plain law, over numbers. No program in sight. -/
import Derived.Test.YtlpockgofejogaaMem
namespace Go.Proofs.Ytlpockgofejogaa
set_option linter.unusedVariables false
set_option linter.unusedSimpArgs false
namespace Undo
/-- each state but the first was made of an elder one -/
def Up (u : Nat → Int) (n : Nat) : Prop := u 0 = -1 ∧ ∀ k, 1 ≤ k → k < n → 0 ≤ u k ∧ u k < (k : Int)
def pathF (u : Nat → Int) : Nat → Nat → List Nat
  | 0, k => [k]
  | F + 1, k => if u k < 0 then [k] else pathF u F (u k).toNat ++ [k]
/-- the way from the first state to a state -/
def path (u : Nat → Int) (k : Nat) : List Nat := pathF u k k
theorem path_root (u : Nat → Int) (k : Nat) (h : u k < 0) : path u k = [k] := by
  unfold path
  cases k with
  | zero => rfl
  | succ k => unfold pathF; rw [if_pos h]
theorem pathF_fuel (u : Nat → Int) (n : Nat) (hu : Up u n) : ∀ (F k : Nat), k < n → k ≤ F → pathF u F k = pathF u k k
  | 0, k, _, h => by have : k = 0 := by omega
                     subst this; rfl
  | F + 1, 0, _, h => by simp [pathF, hu.1]
  | F + 1, k + 1, hk, h => by
    obtain ⟨h1, h2⟩ := hu.2 (k + 1) (by omega) hk
    have h3 : ¬ u (k + 1) < 0 := by omega
    simp only [pathF, h3, if_false]
    rw [pathF_fuel u n hu F _ (by omega) (by omega), pathF_fuel u n hu k _ (by omega) (by omega)]
theorem path_step (u : Nat → Int) (n : Nat) (hu : Up u n) (k : Nat) (hk : k < n) (h : 0 ≤ u k) : path u k = path u (u k).toNat ++ [k] := by
  unfold path
  cases k with
  | zero => have := hu.1; omega
  | succ k =>
    obtain ⟨h1, h2⟩ := hu.2 (k + 1) (by omega) hk
    have h3 : ¬ u (k + 1) < 0 := by omega
    conv => lhs; unfold pathF
    rw [if_neg h3, pathF_fuel u n hu k _ (by omega) (by omega)]
theorem path_pos (u : Nat → Int) (k : Nat) : 1 ≤ (path u k).length := by
  unfold path
  cases k with
  | zero => simp [pathF]
  | succ k => unfold pathF; split <;> simp
theorem path_len (u : Nat → Int) (n : Nat) (hu : Up u n) : ∀ k, k < n → (path u k).length ≤ k + 1 := by
  intro k
  induction k using Nat.strongRecOn with
  | ind k ih =>
    intro hk
    by_cases h : 0 ≤ u k
    · rw [path_step u n hu k hk h]
      have : k ≠ 0 := fun h0 => by subst h0; have := hu.1; omega
      obtain ⟨h1, h2⟩ := hu.2 k (by omega) hk
      have := ih (u k).toNat (by omega) (by omega)
      rw [List.length_append]; simp; omega
    · rw [path_root u k (by omega)]; simp
theorem path_ne (u : Nat → Int) (k : Nat) : path u k ≠ [] := fun h => by have := path_pos u k; rw [h] at this; simp at this
theorem path_last (u : Nat → Int) (n : Nat) (hu : Up u n) (k : Nat) (hk : k < n) : (path u k).getD ((path u k).length - 1) 0 = k := by
  by_cases h : 0 ≤ u k
  · rw [path_step u n hu k hk h]; simp [List.getD_eq_getElem?_getD]
  · rw [path_root u k (by omega)]; simp
theorem path_mem_lt (u : Nat → Int) (n : Nat) (hu : Up u n) : ∀ k, k < n → ∀ j ∈ path u k, j ≤ k := by
  intro k
  induction k using Nat.strongRecOn with
  | ind k ih =>
    intro hk j hj
    by_cases h : 0 ≤ u k
    · rw [path_step u n hu k hk h] at hj
      have : k ≠ 0 := fun h0 => by subst h0; have := hu.1; omega
      obtain ⟨h1, h2⟩ := hu.2 k (by omega) hk
      rcases List.mem_append.1 hj with hj | hj
      · have := ih (u k).toNat (by omega) (by omega) j hj; omega
      · simp at hj; omega
    · rw [path_root u k (by omega)] at hj; simp at hj; omega
theorem path_take (u : Nat → Int) (n : Nat) (hu : Up u n) : ∀ k, k < n → ∀ i, i < (path u k).length → path u ((path u k).getD i 0) = (path u k).take (i + 1) := by
  intro k
  induction k using Nat.strongRecOn with
  | ind k ih =>
    intro hk i hi
    by_cases h : 0 ≤ u k
    · have e := path_step u n hu k hk h
      have : k ≠ 0 := fun h0 => by subst h0; have := hu.1; omega
      obtain ⟨h1, h2⟩ := hu.2 k (by omega) hk
      have hl : (path u k).length = (path u (u k).toNat).length + 1 := by rw [e]; simp
      by_cases hlast : i = (path u (u k).toNat).length
      · subst hlast
        have e2 : (path u k).getD (path u (u k).toNat).length 0 = k := by rw [e]; simp [List.getD_eq_getElem?_getD]
        rw [e2, List.take_of_length_le (by omega)]
      · have hi' : i < (path u (u k).toNat).length := by omega
        have := ih (u k).toNat (by omega) (by omega) i hi'
        have e2 : (path u k).getD i 0 = (path u (u k).toNat).getD i 0 := by
          rw [e, List.getD_eq_getElem?_getD, List.getElem?_append_left hi', ← List.getD_eq_getElem?_getD]
        rw [e2, this, e, List.take_append_of_le_length (by omega)]
    · have e := path_root u k (by omega)
      rw [e] at hi
      have : i = 0 := by simpa using hi
      subst this
      rw [e]; simp [e]
theorem path_up (u : Nat → Int) (n : Nat) (hu : Up u n) (k : Nat) (hk : k < n) (i : Nat) (hi : i + 1 < (path u k).length) :
    u ((path u k).getD (i + 1) 0) = (((path u k).getD i 0 : Nat) : Int) := by
  have hlt : (path u k).getD (i + 1) 0 < n := by
    have hm : (path u k).getD (i + 1) 0 ∈ path u k := by
      rw [List.getD_eq_getElem?_getD, List.getElem?_eq_getElem hi]; exact List.getElem_mem _
    have := path_mem_lt u n hu k hk _ hm
    omega
  have h := path_take u n hu k hk (i + 1) hi
  generalize hj : (path u k).getD (i + 1) 0 = j at *
  by_cases hu0 : 0 ≤ u j
  · rw [path_step u n hu j hlt hu0] at h
    have hl := congrArg List.length h
    rw [List.length_append, List.length_take, List.length_singleton, Nat.min_eq_left (by omega)] at hl
    have h2 : path u (u j).toNat = (path u k).take (i + 1) := by
      rw [List.take_succ_eq_append_getElem hi] at h
      exact (List.append_inj' h rfl).1
    have hj0 : j ≠ 0 := fun h0 => by subst h0; have := hu.1; omega
    obtain ⟨g1, g2⟩ := hu.2 j (by omega) hlt
    have h3 := path_last u n hu (u j).toNat (by omega)
    rw [h2, List.length_take, Nat.min_eq_left (by omega)] at h3
    rw [show i + 1 - 1 = i from by omega, List.getD_eq_getElem?_getD, List.getElem?_take, if_pos (by omega), ← List.getD_eq_getElem?_getD] at h3
    omega
  · rw [path_root u j (by omega)] at h
    have := congrArg List.length h
    rw [List.length_take] at this
    simp at this; omega
theorem path_zero (u : Nat → Int) (n : Nat) (hu : Up u n) (k : Nat) (hk : k < n) : (path u k).getD 0 0 = 0 := by
  have h := path_take u n hu k hk 0 (path_pos u k)
  have hlt : (path u k).getD 0 0 < n := by
    have hm : (path u k).getD 0 0 ∈ path u k := by
      rw [List.getD_eq_getElem?_getD, List.getElem?_eq_getElem (path_pos u k)]; exact List.getElem_mem _
    have := path_mem_lt u n hu k hk _ hm
    omega
  generalize (path u k).getD 0 0 = j at *
  by_cases hj : j = 0
  · exact hj
  · obtain ⟨g1, g2⟩ := hu.2 j (by omega) hlt
    rw [path_step u n hu j hlt g1] at h
    have := congrArg List.length h
    rw [List.length_take, List.length_append] at this
    have := path_pos u (u j).toNat
    simp at *; omega
theorem path_sorted (u : Nat → Int) (n : Nat) (hu : Up u n) (k : Nat) (hk : k < n) (i : Nat) (hi : i + 1 < (path u k).length) : (path u k).getD i 0 < (path u k).getD (i + 1) 0 := by
  have h := path_up u n hu k hk i hi
  have hlt : (path u k).getD (i + 1) 0 < n := by
    have hm : (path u k).getD (i + 1) 0 ∈ path u k := by
      rw [List.getD_eq_getElem?_getD, List.getElem?_eq_getElem hi]; exact List.getElem_mem _
    have := path_mem_lt u n hu k hk _ hm
    omega
  generalize (path u k).getD (i + 1) 0 = j at *
  have hj0 : j ≠ 0 := fun h0 => by subst h0; have := hu.1; omega
  have := (hu.2 j (by omega) hlt).2
  omega
/-! ### the states as a row: what there was, of which it was made, which one was visited last -/
abbrev Ent := Value × Int × Int
def wh (E : List Ent) (k : Nat) : Value := (E.getD k (.bool false, -1, -1)).1
def up (E : List Ent) (k : Nat) : Int := (E.getD k (.bool false, -1, -1)).2.1
def dn (E : List Ent) (k : Nat) : Int := (E.getD k (.bool false, -1, -1)).2.2
def setDn (E : List Ent) (k : Nat) (d : Int) : List Ent := E.set k (wh E k, up E k, d)
theorem setDn_length (E : List Ent) (k : Nat) (d : Int) : (setDn E k d).length = E.length := by simp [setDn]
theorem setDn_get (E : List Ent) (k : Nat) (d : Int) (j : Nat) : (setDn E k d).getD j (.bool false, -1, -1) = if k = j ∧ k < E.length then (wh E k, up E k, d) else E.getD j (.bool false, -1, -1) := by
  unfold setDn
  simp only [List.getD_eq_getElem?_getD, List.getElem?_set]
  by_cases h : k = j
  · subst h
    by_cases h2 : k < E.length
    · simp [h2]
    · simp [h2]
  · simp [h]
theorem wh_setDn (E : List Ent) (k : Nat) (d : Int) (j : Nat) : wh (setDn E k d) j = wh E j := by
  unfold wh; rw [setDn_get]
  split
  · rename_i h; rw [← h.1]; rfl
  · rfl
theorem up_setDn (E : List Ent) (k : Nat) (d : Int) : up (setDn E k d) = up E := by
  funext j
  unfold up; rw [setDn_get]
  split
  · rename_i h; rw [← h.1]; rfl
  · rfl
theorem dn_setDn (E : List Ent) (k : Nat) (d : Int) (j : Nat) : dn (setDn E k d) j = if k = j ∧ k < E.length then d else dn E j := by
  unfold dn; rw [setDn_get]
  split <;> rfl
theorem setDn_same (E : List Ent) (k : Nat) : setDn E k (dn E k) = E := by
  unfold setDn wh up dn
  by_cases h : k < E.length
  · apply List.ext_getElem?
    intro i
    rw [List.getElem?_set]
    split
    · rename_i h2; subst h2
      rw [List.getD_eq_getElem?_getD, List.getElem?_eq_getElem h]; rfl
    · rfl
  · rw [List.set_eq_of_length_le (by omega)]
/-- going to a state: each on its way is told which one is next -/
def goF (E : List Ent) : Nat → Nat → List Ent
  | 0, _ => E
  | F + 1, k => if up E k < 0 then E else goF (setDn E (up E k).toNat (k : Int)) F (up E k).toNat
theorem goF_up : ∀ (F k : Nat) (E : List Ent), up (goF E F k) = up E
  | 0, _, _ => rfl
  | F + 1, k, E => by
    unfold goF
    split
    · rfl
    · rw [goF_up F, up_setDn]
theorem goF_wh : ∀ (F k : Nat) (E : List Ent) (j : Nat), wh (goF E F k) j = wh E j
  | 0, _, _, _ => rfl
  | F + 1, k, E, j => by
    unfold goF
    split
    · rfl
    · rw [goF_wh F, wh_setDn]
theorem goF_length : ∀ (F k : Nat) (E : List Ent), (goF E F k).length = E.length
  | 0, _, _ => rfl
  | F + 1, k, E => by
    unfold goF
    split
    · rfl
    · rw [goF_length F, setDn_length]
theorem goF_fuel (n : Nat) : ∀ (F k : Nat) (E : List Ent), Up (up E) n → k < n → k ≤ F → goF E F k = goF E k k
  | 0, k, E, _, _, h => by have : k = 0 := by omega
                           subst this; rfl
  | F + 1, 0, E, hu, _, h => by simp [goF, hu.1]
  | F + 1, k + 1, E, hu, hk, h => by
    obtain ⟨h1, h2⟩ := hu.2 (k + 1) (by omega) hk
    have h3 : ¬ up E (k + 1) < 0 := by omega
    simp only [goF, h3, if_false]
    rw [goF_fuel n F _ _ (by rw [up_setDn]; exact hu) (by omega) (by omega), goF_fuel n k _ _ (by rw [up_setDn]; exact hu) (by omega) (by omega)]
def go (E : List Ent) (k : Nat) : List Ent := goF E k k
theorem go_root (E : List Ent) (k : Nat) (h : up E k < 0) : go E k = E := by
  unfold go
  cases k with
  | zero => rfl
  | succ k => unfold goF; rw [if_pos h]
theorem go_step (E : List Ent) (n : Nat) (hu : Up (up E) n) (k : Nat) (hk : k < n) (h : 0 ≤ up E k) : go E k = go (setDn E (up E k).toNat (k : Int)) (up E k).toNat := by
  unfold go
  cases k with
  | zero => have := hu.1; omega
  | succ k =>
    obtain ⟨h1, h2⟩ := hu.2 (k + 1) (by omega) hk
    have h3 : ¬ up E (k + 1) < 0 := by omega
    conv => lhs; unfold goF
    rw [if_neg h3, goF_fuel n k _ _ (by rw [up_setDn]; exact hu) (by omega) (by omega)]
/-- the numbers of states are in order -/
def Dn (E : List Ent) : Prop := ∀ k, k < E.length → -1 ≤ dn E k ∧ dn E k < (E.length : Int)
theorem dn_set_ok (E : List Ent) (h : Dn E) (k d : Nat) (hd : d < E.length) : Dn (setDn E k (d : Int)) := by
  intro j hj
  rw [setDn_length] at *
  rw [dn_setDn]
  split
  · omega
  · exact h j hj
theorem goF_dn : ∀ (F k : Nat) (E : List Ent), Dn E → k < E.length → Up (up E) E.length → Dn (goF E F k)
  | 0, _, _, h, _, _ => h
  | F + 1, k, E, h, hk, hu => by
    unfold goF
    split
    · exact h
    · rename_i hn
      have hj0 : k ≠ 0 := fun h0 => by subst h0; have := hu.1; omega
      have := hu.2 k (by omega) hk
      exact goF_dn F _ _ (dn_set_ok E h _ _ hk) (by rw [setDn_length]; omega) (by rw [up_setDn, setDn_length]; exact hu)
theorem go_dn_far (n : Nat) : ∀ (F k : Nat) (E : List Ent), Up (up E) n → k < n → ∀ j, k ≤ j → dn (goF E F k) j = dn E j
  | 0, _, _, _, _, _, _ => rfl
  | F + 1, k, E, hu, hk, j, hj => by
    unfold goF
    split
    · rfl
    · rename_i hn
      have hj0 : k ≠ 0 := fun h0 => by subst h0; have := hu.1; omega
      have := hu.2 k (by omega) hk
      rw [go_dn_far n F _ _ (by rw [up_setDn]; exact hu) (by omega) j (by omega), dn_setDn, if_neg (by omega)]
/-- behind it each on the way knows the next one -/
theorem go_next (n : Nat) : ∀ (k : Nat) (E : List Ent), n = E.length → Up (up E) n → k < n → ∀ i, i + 1 < (path (up E) k).length →
    dn (go E k) ((path (up E) k).getD i 0) = (((path (up E) k).getD (i + 1) 0 : Nat) : Int) := by
  intro k
  induction k using Nat.strongRecOn with
  | ind k ih =>
    intro E hn hu hk i hi
    by_cases h : 0 ≤ up E k
    · have hj0 : k ≠ 0 := fun h0 => by subst h0; have := hu.1; omega
      have hb := hu.2 k (by omega) hk
      have e := path_step (up E) n hu k hk h
      have hl : (path (up E) k).length = (path (up E) (up E k).toNat).length + 1 := by rw [e]; simp
      rw [go_step E n hu k hk h]
      have eu := up_setDn E (up E k).toNat (k : Int)
      by_cases hlast : i + 1 = (path (up E) (up E k).toNat).length
      · have e1 : (path (up E) k).getD (i + 1) 0 = k := by rw [e, hlast]; simp [List.getD_eq_getElem?_getD]
        have e2 : (path (up E) k).getD i 0 = (up E k).toNat := by
          have := path_last (up E) n hu (up E k).toNat (by omega)
          rw [e, List.getD_eq_getElem?_getD, List.getElem?_append_left (by omega), ← List.getD_eq_getElem?_getD]
          rwa [show (path (up E) (up E k).toNat).length - 1 = i from by omega] at this
        rw [e1, e2]
        unfold go
        rw [go_dn_far n _ _ _ (by rw [eu]; exact hu) (by omega) _ (Nat.le_refl _), dn_setDn, if_pos ⟨rfl, by omega⟩]
      · have hi' : i + 1 < (path (up E) (up E k).toNat).length := by omega
        have := ih (up E k).toNat (by omega) (setDn E (up E k).toNat (k : Int)) (by rw [setDn_length]; exact hn) (by rw [eu]; exact hu) (by omega) i (by rw [eu]; exact hi')
        rw [eu] at this
        have e2 : ∀ q, q < (path (up E) (up E k).toNat).length → (path (up E) k).getD q 0 = (path (up E) (up E k).toNat).getD q 0 := by
          intro q hq
          rw [e, List.getD_eq_getElem?_getD, List.getElem?_append_left hq, ← List.getD_eq_getElem?_getD]
        rw [e2 i (by omega), e2 (i + 1) hi']
        exact this
    · rw [path_root (up E) k (by omega)] at hi
      simp at hi
theorem append_get (E : List Ent) (e : Ent) (k : Nat) : (E ++ [e]).getD k (.bool false, -1, -1) = if k = E.length then e else E.getD k (.bool false, -1, -1) := by
  simp only [List.getD_eq_getElem?_getD]
  by_cases h : k < E.length
  · rw [if_neg (by omega), List.getElem?_append_left h]
  · rw [List.getElem?_append_right (by omega)]
    by_cases h2 : k = E.length
    · rw [if_pos h2, h2]; simp
    · rw [if_neg h2, List.getElem?_eq_none (by simp; omega), List.getElem?_eq_none (by omega)]
theorem up_append (E : List Ent) (e : Ent) (k : Nat) : up (E ++ [e]) k = if k = E.length then e.2.1 else up E k := by
  unfold up; rw [append_get]; split <;> rfl
theorem dn_append (E : List Ent) (e : Ent) (k : Nat) : dn (E ++ [e]) k = if k = E.length then e.2.2 else dn E k := by
  unfold dn; rw [append_get]; split <;> rfl
theorem wh_append (E : List Ent) (e : Ent) (k : Nat) : wh (E ++ [e]) k = if k = E.length then e.1 else wh E k := by
  unfold wh; rw [append_get]; split <;> rfl
theorem up_more (E : List Ent) (v : Value) (now : Nat) (h : Up (up E) E.length) (hn : now < E.length) : Up (up (E ++ [(v, (now : Int), -1)])) (E ++ [(v, (now : Int), -1)]).length := by
  refine ⟨?_, fun k h1 h2 => ?_⟩
  · rw [up_append, if_neg (by omega)]; exact h.1
  · rw [List.length_append, List.length_singleton] at h2
    rw [up_append]
    split
    · simp only; omega
    · exact h.2 k h1 (by omega)
theorem dn_more (E : List Ent) (v : Value) (now : Nat) (h : Dn E) : Dn (E ++ [(v, (now : Int), -1)]) := by
  intro k hk
  rw [List.length_append, List.length_singleton] at *
  rw [dn_append]
  split
  · simp only; omega
  · have := h k (by omega); omega
/-! ### the states in memory -/
def cells (E : List Ent) : List Value := E.flatMap fun e => [e.1, .int .i64 e.2.1, .int .i64 e.2.2]
theorem cells_length : ∀ E : List Ent, (cells E).length = 3 * E.length
  | [] => rfl
  | e :: E => by simp only [cells, List.flatMap_cons, List.length_append, List.length_cons, List.length_nil]; have := cells_length E; unfold cells at this; omega
theorem cells_append (E F : List Ent) : cells (E ++ F) = cells E ++ cells F := by simp [cells]
theorem cells_get : ∀ (E : List Ent) (k : Nat), k < E.length → (cells E)[k * 3]? = some (wh E k) ∧ (cells E)[k * 3 + 1]? = some (.int .i64 (up E k)) ∧ (cells E)[k * 3 + 2]? = some (.int .i64 (dn E k))
  | [], k, h => by simp at h
  | e :: E, 0, _ => by simp [cells, wh, up, dn]
  | e :: E, k + 1, h => by
    have := cells_get E k (by simpa using h)
    have e1 : cells (e :: E) = [e.1, .int .i64 e.2.1, .int .i64 e.2.2] ++ cells E := by simp [cells]
    rw [e1, show (k + 1) * 3 = k * 3 + 3 from by omega]
    simpa [wh, up, dn, List.getElem?_append] using this
theorem cells_setDn : ∀ (E : List Ent) (k : Nat) (d : Int), k < E.length → (cells E).set (k * 3 + 2) (.int .i64 d) = cells (setDn E k d)
  | [], k, d, h => by simp at h
  | e :: E, 0, d, _ => by simp [cells, setDn, wh, up]
  | e :: E, k + 1, d, h => by
    have := cells_setDn E k d (by simpa using h)
    have e1 : ∀ E, cells (e :: E) = [e.1, .int .i64 e.2.1, .int .i64 e.2.2] ++ cells E := fun E => by simp [cells]
    have e2 : setDn (e :: E) (k + 1) d = e :: setDn E k d := by simp [setDn, wh, up]
    rw [e2, e1, e1, show (k + 1) * 3 + 2 = (k * 3 + 2) + 3 from by omega, ← this, List.set_append_right _ _ (by simp)]
    simp
end Undo
end Go.Proofs.Ytlpockgofejogaa
