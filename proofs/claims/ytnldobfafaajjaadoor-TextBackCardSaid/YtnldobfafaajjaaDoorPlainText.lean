/- Signs out of bytes (UTF-8): plain Lean. -/
import Derived.Lib.DecodeN
import Derived.Lib.RuneBytes
namespace Go.Proofs.YtnldobfafaajjaaDoor
set_option linter.unusedVariables false
set_option linter.unusedSimpArgs false
namespace Txt
open Go.Lib
def bt (l : List UInt8) (i : Nat) : Nat := (l.getD i 0).toNat
def dec1 (l : List UInt8) : Nat × Nat := decodeN l.length (bt l 0) (bt l 1) (bt l 2) (bt l 3)
/-- how many bytes could be the beginning of a sign -/
def most (c : Nat) : Nat := if 194 ≤ c ∧ c ≤ 223 then 2 else if 224 ≤ c ∧ c ≤ 239 then 3 else if 240 ≤ c ∧ c ≤ 244 then 4 else 1
def low (c : Nat) : Nat := if c = 224 then 160 else if c = 240 then 144 else 128
def high (c : Nat) : Nat := if c = 237 then 159 else if c = 244 then 143 else 191
def begN (N b0 b1 b2 b3 : Nat) : Nat :=
  if 1 < most b0 ∧ 1 < N ∧ low b0 ≤ b1 ∧ b1 ≤ high b0 then
    if 2 < most b0 ∧ 2 < N ∧ 128 ≤ b2 ∧ b2 ≤ 191 then
      if 3 < most b0 ∧ 3 < N ∧ 128 ≤ b3 ∧ b3 ≤ 191 then 4 else 3
    else 2
  else 1
def beg (l : List UInt8) : Nat := begN l.length (bt l 0) (bt l 1) (bt l 2) (bt l 3)
def step (l : List UInt8) : Nat × Nat := if dec1 l = (65533, 1) then (65533, beg l) else dec1 l
theorem decN_len (N b0 b1 b2 b3 : Nat) (h : 1 ≤ N) : 1 ≤ (decodeN N b0 b1 b2 b3).2 ∧ (decodeN N b0 b1 b2 b3).2 ≤ N := by
  unfold decodeN
  repeat' split
  all_goals (simp only; omega)
theorem begN_len (N b0 b1 b2 b3 : Nat) (h : 1 ≤ N) : 1 ≤ begN N b0 b1 b2 b3 ∧ begN N b0 b1 b2 b3 ≤ N := by
  unfold begN
  repeat' split
  all_goals omega
theorem decN_is (N b0 b1 b2 b3 : Nat) : (decodeN N b0 b1 b2 b3).1 ≤ 1114111 ∧ ((decodeN N b0 b1 b2 b3).1 < 55296 ∨ 57343 < (decodeN N b0 b1 b2 b3).1) := by
  unfold decodeN
  repeat' split
  all_goals (simp only; omega)
/-- decodeN over what it looks at -/
def decA (n b0 d1 d2 d3 v2 v3 v4 : Nat) : Nat × Nat :=
  if b0 < 128 then (b0, 1)
  else if b0 / 32 = 6 ∧ (1 < n ∧ d1 = 2) then (if v2 ≥ 128 then (v2, 2) else (65533, 1))
  else if b0 / 16 = 14 ∧ (1 < n ∧ d1 = 2) ∧ (2 < n ∧ d2 = 2) then (if v3 ≥ 2048 ∧ (v3 < 55296 ∨ (57344 ≤ v3 ∧ v3 ≤ 1114111)) then (v3, 3) else (65533, 1))
  else if b0 / 8 = 30 ∧ (1 < n ∧ d1 = 2) ∧ (2 < n ∧ d2 = 2) ∧ (3 < n ∧ d3 = 2) then (if v4 ≥ 65536 ∧ (v4 < 55296 ∨ (57344 ≤ v4 ∧ v4 ≤ 1114111)) then (v4, 4) else (65533, 1))
  else (65533, 1)
theorem decA_eq (n b0 b1 b2 b3 : Nat) : decodeN n b0 b1 b2 b3 = decA n b0 (b1 / 64) (b2 / 64) (b3 / 64) (b0 % 32 * 64 + b1 % 64) (b0 % 16 * 4096 + b1 % 64 * 64 + b2 % 64) (b0 % 8 * 262144 + b1 % 64 * 4096 + b2 % 64 * 64 + b3 % 64) := rfl
theorem decA_take (N m b0 d1 d2 d3 v2 v3 v4 f1 f2 f3 u2 u3 u4 : Nat) (hm : 1 ≤ m) (hmN : m ≤ N) (e2 : 1 < m → u2 = v2 ∧ f1 = d1) (e3 : 2 < m → u3 = v3 ∧ f2 = d2) (e4 : 3 < m → u4 = v4 ∧ f3 = d3) :
    ((decA N b0 d1 d2 d3 v2 v3 v4).2 ≤ m → decA N b0 d1 d2 d3 v2 v3 v4 ≠ (65533, 1) → decA m b0 f1 f2 f3 u2 u3 u4 = decA N b0 d1 d2 d3 v2 v3 v4) ∧ (decA N b0 d1 d2 d3 v2 v3 v4 = (65533, 1) → decA m b0 f1 f2 f3 u2 u3 u4 = (65533, 1)) := by
  by_cases a1 : b0 < 128
  · unfold decA; rw [if_pos a1, if_pos a1]; exact ⟨fun _ _ => rfl, fun h => h⟩
  by_cases a2 : b0 / 32 = 6
  · have n3 : ¬ b0 / 16 = 14 := by omega
    have n4 : ¬ b0 / 8 = 30 := by omega
    unfold decA
    simp only [if_neg a1, a2, n3, n4, true_and, false_and, if_false]
    clear a1 a2 n3 n4 e3 e4
    by_cases c : 1 < N ∧ d1 = 2
    · rw [if_pos c]
      by_cases cm : 1 < m
      · obtain ⟨rfl, rfl⟩ := e2 cm
        rw [if_pos (show 1 < m ∧ f1 = 2 from ⟨cm, c.2⟩)]
        exact ⟨fun _ _ => rfl, fun h => h⟩
      · rw [if_neg (fun h : 1 < m ∧ f1 = 2 => cm h.1)]
        split
        · refine ⟨fun h => ?_, fun h => rfl⟩
          simp only at h; omega
        · exact ⟨fun _ h => absurd rfl h, fun _ => rfl⟩
    · rw [if_neg c]
      refine ⟨fun _ h => absurd rfl h, fun _ => ?_⟩
      rw [if_neg (?_ : ¬ (1 < m ∧ f1 = 2))]
      intro h
      obtain ⟨_, rfl⟩ := e2 h.1
      exact c ⟨by omega, h.2⟩
  by_cases a3 : b0 / 16 = 14
  · have n4 : ¬ b0 / 8 = 30 := by omega
    unfold decA
    simp only [if_neg a1, a2, a3, n4, true_and, false_and, if_false]
    clear a1 a2 a3 n4 e4
    by_cases c : (1 < N ∧ d1 = 2) ∧ (2 < N ∧ d2 = 2)
    · rw [if_pos c]
      by_cases cm : 2 < m
      · obtain ⟨rfl, rfl⟩ := e2 (by omega)
        obtain ⟨rfl, rfl⟩ := e3 cm
        rw [if_pos (show (1 < m ∧ f1 = 2) ∧ (2 < m ∧ f2 = 2) from ⟨⟨by omega, c.1.2⟩, cm, c.2.2⟩)]
        exact ⟨fun _ _ => rfl, fun h => h⟩
      · rw [if_neg (fun h : (1 < m ∧ f1 = 2) ∧ (2 < m ∧ f2 = 2) => cm h.2.1)]
        split
        · refine ⟨fun h => ?_, fun h => rfl⟩
          simp only at h; omega
        · exact ⟨fun _ h => absurd rfl h, fun _ => rfl⟩
    · rw [if_neg c]
      refine ⟨fun _ h => absurd rfl h, fun _ => ?_⟩
      rw [if_neg (?_ : ¬ ((1 < m ∧ f1 = 2) ∧ (2 < m ∧ f2 = 2)))]
      intro h
      obtain ⟨_, rfl⟩ := e2 h.1.1
      obtain ⟨_, rfl⟩ := e3 h.2.1
      exact c ⟨⟨by omega, h.1.2⟩, by omega, h.2.2⟩
  by_cases a4 : b0 / 8 = 30
  · unfold decA
    simp only [if_neg a1, a2, a3, a4, true_and, false_and, if_false]
    clear a1 a2 a3 a4
    by_cases c : (1 < N ∧ d1 = 2) ∧ (2 < N ∧ d2 = 2) ∧ (3 < N ∧ d3 = 2)
    · rw [if_pos c]
      by_cases cm : 3 < m
      · obtain ⟨rfl, rfl⟩ := e2 (by omega)
        obtain ⟨rfl, rfl⟩ := e3 (by omega)
        obtain ⟨rfl, rfl⟩ := e4 cm
        rw [if_pos (show (1 < m ∧ f1 = 2) ∧ (2 < m ∧ f2 = 2) ∧ (3 < m ∧ f3 = 2) from ⟨⟨by omega, c.1.2⟩, ⟨by omega, c.2.1.2⟩, cm, c.2.2.2⟩)]
        exact ⟨fun _ _ => rfl, fun h => h⟩
      · rw [if_neg (fun h : (1 < m ∧ f1 = 2) ∧ (2 < m ∧ f2 = 2) ∧ (3 < m ∧ f3 = 2) => cm h.2.2.1)]
        split
        · refine ⟨fun h => ?_, fun h => rfl⟩
          simp only at h; omega
        · exact ⟨fun _ h => absurd rfl h, fun _ => rfl⟩
    · rw [if_neg c]
      refine ⟨fun _ h => absurd rfl h, fun _ => ?_⟩
      rw [if_neg (?_ : ¬ ((1 < m ∧ f1 = 2) ∧ (2 < m ∧ f2 = 2) ∧ (3 < m ∧ f3 = 2)))]
      intro h
      obtain ⟨_, rfl⟩ := e2 h.1.1
      obtain ⟨_, rfl⟩ := e3 h.2.1.1
      obtain ⟨_, rfl⟩ := e4 h.2.2.1
      exact c ⟨⟨by omega, h.1.2⟩, ⟨by omega, h.2.1.2⟩, by omega, h.2.2.2⟩
  unfold decA
  simp only [if_neg a1, a2, a3, a4, false_and, if_false]
  simp
theorem decN_take (N m b0 b1 b2 b3 c1 c2 c3 : Nat) (hm : 1 ≤ m) (hmN : m ≤ N) (h1 : 1 < m → c1 = b1) (h2 : 2 < m → c2 = b2) (h3 : 3 < m → c3 = b3) :
    ((decodeN N b0 b1 b2 b3).2 ≤ m → decodeN N b0 b1 b2 b3 ≠ (65533, 1) → decodeN m b0 c1 c2 c3 = decodeN N b0 b1 b2 b3) ∧ (decodeN N b0 b1 b2 b3 = (65533, 1) → decodeN m b0 c1 c2 c3 = (65533, 1)) := by
  rw [decA_eq, decA_eq]
  refine decA_take N m b0 _ _ _ _ _ _ _ _ _ _ _ _ hm hmN (fun h => ?_) (fun h => ?_) (fun h => ?_)
  · rw [h1 h]; exact ⟨rfl, rfl⟩
  · rw [h1 (by omega), h2 h]; exact ⟨rfl, rfl⟩
  · rw [h1 (by omega), h2 (by omega), h3 h]; exact ⟨rfl, rfl⟩
theorem begN_take (N m b0 b1 b2 b3 c1 c2 c3 : Nat) (hm : 1 ≤ m) (hmN : m ≤ N) (h1 : 1 < m → c1 = b1) (h2 : 2 < m → c2 = b2) (h3 : 3 < m → c3 = b3) (h : begN N b0 b1 b2 b3 ≤ m) : begN m b0 c1 c2 c3 = begN N b0 b1 b2 b3 := by
  generalize hL : low b0 = L at *
  unfold begN at h ⊢
  rw [hL] at h ⊢
  clear hL
  generalize most b0 = M at *
  generalize high b0 = H at *
  rcases (by omega : m = 1 ∨ m = 2 ∨ m = 3 ∨ 4 ≤ m) with rfl | rfl | rfl | h4
  · repeat' split at h
    all_goals (repeat' split)
    all_goals omega
  · obtain rfl := h1 (by omega)
    repeat' split at h
    all_goals (repeat' split)
    all_goals omega
  · obtain rfl := h1 (by omega)
    obtain rfl := h2 (by omega)
    repeat' split at h
    all_goals (repeat' split)
    all_goals omega
  · obtain rfl := h1 (by omega)
    obtain rfl := h2 (by omega)
    obtain rfl := h3 (by omega)
    repeat' split at h
    all_goals (repeat' split)
    all_goals omega
theorem bt_lt (l : List UInt8) (i : Nat) : bt l i < 256 := (l.getD i 0).toNat_lt
theorem bt_take (l : List UInt8) (m i : Nat) (h : i < m) : bt (l.take m) i = bt l i := by
  unfold bt
  simp only [List.getD_eq_getElem?_getD, List.getElem?_take, if_pos h]
theorem dec1_len (l : List UInt8) (h : l ≠ []) : 1 ≤ (dec1 l).2 ∧ (dec1 l).2 ≤ l.length := decN_len _ _ _ _ _ (List.length_pos_iff.2 h)
theorem beg_len (l : List UInt8) (h : l ≠ []) : 1 ≤ beg l ∧ beg l ≤ l.length := begN_len _ _ _ _ _ (List.length_pos_iff.2 h)
theorem step_len (l : List UInt8) (h : l ≠ []) : 1 ≤ (step l).2 ∧ (step l).2 ≤ l.length := by
  unfold step
  split
  · exact beg_len l h
  · exact dec1_len l h
theorem step_is (l : List UInt8) : (step l).1 ≤ 1114111 ∧ ((step l).1 < 55296 ∨ 57343 < (step l).1) := by
  unfold step
  split
  · refine ⟨?_, .inr ?_⟩ <;> simp only <;> omega
  · exact decN_is _ _ _ _ _
theorem step_take (l : List UInt8) (m : Nat) (h : l ≠ []) (hs : (step l).2 ≤ m) (hm : m ≤ l.length) : step (l.take m) = step l := by
  have hp := step_len l h
  have hm1 : 1 ≤ m := by omega
  have hl : (l.take m).length = m := by rw [List.length_take]; omega
  have h0 := bt_take l m 0 (by omega)
  have key := decN_take l.length m (bt l 0) (bt l 1) (bt l 2) (bt l 3) (bt (l.take m) 1) (bt (l.take m) 2) (bt (l.take m) 3) hm1 hm (bt_take l m 1) (bt_take l m 2) (bt_take l m 3)
  have e1 : dec1 (l.take m) = decodeN m (bt l 0) (bt (l.take m) 1) (bt (l.take m) 2) (bt (l.take m) 3) := by unfold dec1; rw [hl, h0]
  by_cases hd : dec1 l = (65533, 1)
  · have e2 := key.2 hd
    rw [← e1] at e2
    unfold step at hs ⊢
    rw [if_pos hd] at hs ⊢
    rw [if_pos e2]
    have hb := begN_take l.length m (bt l 0) (bt l 1) (bt l 2) (bt l 3) (bt (l.take m) 1) (bt (l.take m) 2) (bt (l.take m) 3) hm1 hm (bt_take l m 1) (bt_take l m 2) (bt_take l m 3) hs
    unfold beg
    rw [hl, h0, hb]
  · unfold step at hs
    rw [if_neg hd] at hs
    have e2 := key.1 hs hd
    rw [← e1] at e2
    have e3 : dec1 (l.take m) = dec1 l := e2
    unfold step
    rw [e3, if_neg hd, if_neg hd]
/-- the bytes of a sign, as integers -/
theorem dec_enc (N b0 b1 b2 b3 : Nat) (h0 : b0 < 256) (h1 : b1 < 256) (h2 : b2 < 256) (h3 : b3 < 256) (hr : (decodeN N b0 b1 b2 b3).1 ≠ 65533) :
    encodeRuneZ ((decodeN N b0 b1 b2 b3).1 : Nat) = ([b0, b1, b2, b3].take (decodeN N b0 b1 b2 b3).2).map fun n : Nat => (n : Int) := by
  unfold decodeN at hr ⊢
  repeat' split at hr
  all_goals (try (exact absurd rfl hr))
  · rename_i a
    rw [if_pos a, encodeRuneZ_one (by omega) (by omega)]
    rfl
  · rename_i a b c
    rw [if_neg a, if_pos b, if_pos c, encodeRuneZ_two (by omega) (by omega)]
    simp only [List.take_succ_cons, List.take_zero, List.map_cons, List.map_nil]
    congr 1
    · omega
    · congr 1; omega
  · rename_i a b c d
    rw [if_neg a, if_neg b, if_pos c, if_pos d, encodeRuneZ_three (by omega)]
    simp only [List.take_succ_cons, List.take_zero, List.map_cons, List.map_nil]
    congr 1
    · omega
    · congr 1
      · omega
      · congr 1; omega
  · rename_i a b c d e
    rw [if_neg a, if_neg b, if_neg c, if_pos d, if_pos e, encodeRuneZ_four (by omega) (by omega)]
    simp only [List.take_succ_cons, List.take_zero, List.map_cons, List.map_nil]
    congr 1
    · omega
    · congr 1
      · omega
      · congr 1
        · omega
        · congr 1; omega
/-- the signs, and how many bytes each has -/
def sgnF : Nat → List UInt8 → List (Nat × Nat)
  | 0, _ => []
  | f + 1, l => if l = [] then [] else step l :: sgnF f (l.drop (step l).2)
def sgn (l : List UInt8) : List (Nat × Nat) := sgnF l.length l
def tot (x : List (Nat × Nat)) : Nat := (x.map (·.2)).sum
theorem sgnF_nil (f : Nat) : sgnF f [] = [] := by cases f <;> simp [sgnF]
theorem sgnF_cons (f : Nat) (l : List UInt8) (h : l ≠ []) (hf : l.length ≤ f) : sgnF f l = step l :: sgnF (f - 1) (l.drop (step l).2) := by
  have := List.length_pos_iff.2 h
  obtain ⟨g, rfl⟩ : ∃ g, f = g + 1 := ⟨f - 1, by omega⟩
  simp only [sgnF, if_neg h, Nat.add_sub_cancel]
theorem sgnF_more (n : Nat) : ∀ (f g : Nat) (l : List UInt8), l.length ≤ n → l.length ≤ f → l.length ≤ g → sgnF f l = sgnF g l := by
  induction n with
  | zero =>
    intro f g l h _ _
    obtain rfl := List.eq_nil_of_length_eq_zero (Nat.le_zero.1 h)
    rw [sgnF_nil, sgnF_nil]
  | succ n ih =>
    intro f g l h hf hg
    by_cases hl : l = []
    · subst hl; rw [sgnF_nil, sgnF_nil]
    · have hp := step_len l hl
      rw [sgnF_cons f l hl hf, sgnF_cons g l hl hg]
      congr 1
      refine ih _ _ _ ?_ ?_ ?_ <;> rw [List.length_drop] <;> omega
theorem sgn_nil : sgn [] = [] := rfl
theorem sgn_cons (l : List UInt8) (h : l ≠ []) : sgn l = step l :: sgn (l.drop (step l).2) := by
  have hp := step_len l h
  unfold sgn
  rw [sgnF_cons _ l h (Nat.le_refl _)]
  congr 1
  refine sgnF_more l.length _ _ _ ?_ ?_ (Nat.le_refl _) <;> rw [List.length_drop] <;> omega
theorem sgn_ind {P : List UInt8 → Prop} (h0 : P []) (hs : ∀ l, l ≠ [] → P (l.drop (step l).2) → P l) : ∀ l, P l := by
  have key : ∀ n (l : List UInt8), l.length ≤ n → P l := by
    intro n
    induction n with
    | zero =>
      intro l h
      obtain rfl := List.eq_nil_of_length_eq_zero (Nat.le_zero.1 h)
      exact h0
    | succ n ih =>
      intro l h
      by_cases hl : l = []
      · subst hl; exact h0
      · have hp := step_len l hl
        refine hs l hl (ih _ ?_)
        rw [List.length_drop]; omega
  exact fun l => key _ l (Nat.le_refl _)
theorem sgn_tot (l : List UInt8) : tot (sgn l) = l.length := by
  refine sgn_ind (P := fun l => tot (sgn l) = l.length) rfl ?_ l
  intro l hl ih
  have hp := step_len l hl
  rw [sgn_cons l hl]
  unfold tot at ih ⊢
  rw [List.map_cons, List.sum_cons, ih, List.length_drop]; omega
theorem sgn_each (l : List UInt8) : ∀ x ∈ sgn l, 1 ≤ x.2 ∧ x.1 ≤ 1114111 ∧ (x.1 < 55296 ∨ 57343 < x.1) := by
  refine sgn_ind (P := fun l => ∀ x ∈ sgn l, 1 ≤ x.2 ∧ x.1 ≤ 1114111 ∧ (x.1 < 55296 ∨ 57343 < x.1)) (fun x h => by cases h) ?_ l
  intro l hl ih x hx
  rw [sgn_cons l hl] at hx
  rcases List.mem_cons.1 hx with rfl | hx
  · exact ⟨(step_len l hl).1, step_is l⟩
  · exact ih x hx
theorem tot_take_le (x : List (Nat × Nat)) (k : Nat) : tot (x.take k) ≤ tot x := by
  have : tot x = tot (x.take k) + tot (x.drop k) := by
    unfold tot
    rw [← List.sum_append, ← List.map_append, List.take_append_drop]
  omega
theorem sgn_length (l : List UInt8) : (sgn l).length ≤ l.length := by
  have h1 := sgn_tot l
  have h2 : ∀ (x : List (Nat × Nat)), (∀ y ∈ x, 1 ≤ y.2) → x.length ≤ tot x := by
    intro x
    induction x with
    | nil => intro _; exact Nat.le_refl _
    | cons y x ih =>
      intro h
      have := ih fun z hz => h z (List.mem_cons_of_mem _ hz)
      have h3 := h y List.mem_cons_self
      unfold tot at this ⊢
      rw [List.map_cons, List.sum_cons, List.length_cons]; omega
  have := h2 _ fun y hy => (sgn_each l y hy).1
  omega
/-- the pieces between signs are read as these signs -/
theorem sgn_take (l : List UInt8) : ∀ k, sgn (l.take (tot ((sgn l).take k))) = (sgn l).take k := by
  refine sgn_ind (P := fun l => ∀ k, sgn (l.take (tot ((sgn l).take k))) = (sgn l).take k) (fun k => by simp [sgn_nil]) ?_ l
  intro l hl ih k
  cases k with
  | zero => rw [List.take_zero]; show sgn (l.take 0) = []; rw [List.take_zero]; rfl
  | succ k =>
    have hp := step_len l hl
    have hsum := tot_take_le (sgn l) (k + 1)
    rw [sgn_tot] at hsum
    rw [sgn_cons l hl, List.take_succ_cons]
    rw [sgn_cons l hl, List.take_succ_cons] at hsum
    have e : tot (step l :: (sgn (l.drop (step l).2)).take k) = (step l).2 + tot ((sgn (l.drop (step l).2)).take k) := by
      unfold tot; rw [List.map_cons, List.sum_cons]
    rw [e] at hsum ⊢
    have ihk := ih k
    generalize tot ((sgn (l.drop (step l).2)).take k) = t at *
    have hne : l.take ((step l).2 + t) ≠ [] := by
      intro h
      have h5 : (l.take ((step l).2 + t)).length = 0 := by rw [h]; rfl
      rw [List.length_take] at h5
      omega
    rw [sgn_cons _ hne, step_take l _ hl (by omega) hsum]
    congr 1
    rw [← ihk]
    congr 1
    rw [List.drop_take]
    congr 1
    omega
/-- what is good is written as it was -/
theorem sgn_enc (l : List UInt8) : (∀ x ∈ sgn l, x.1 ≠ 65533) → ((sgn l).flatMap fun x => encodeRuneZ (x.1 : Nat)) = l.map fun b : UInt8 => (b.toNat : Int) := by
  refine sgn_ind (P := fun l => (∀ x ∈ sgn l, x.1 ≠ 65533) → ((sgn l).flatMap fun x => encodeRuneZ (x.1 : Nat)) = l.map fun b : UInt8 => (b.toNat : Int)) (fun _ => rfl) ?_ l
  intro l hl ih h
  have hp := step_len l hl
  rw [sgn_cons l hl] at h ⊢
  have h1 := h _ List.mem_cons_self
  rw [List.flatMap_cons, ih fun x hx => h x (List.mem_cons_of_mem _ hx)]
  have hd : ¬ dec1 l = (65533, 1) := by
    intro hd
    unfold step at h1
    rw [if_pos hd] at h1
    exact h1 rfl
  have hs : step l = dec1 l := if_neg hd
  rw [hs] at h1 hp ⊢
  have he := dec_enc l.length (bt l 0) (bt l 1) (bt l 2) (bt l 3) (bt_lt _ _) (bt_lt _ _) (bt_lt _ _) (bt_lt _ _) h1
  have hl4 : (dec1 l).2 ≤ 4 := by
    unfold dec1 decodeN
    repeat' split
    all_goals (simp only; omega)
  have he2 : encodeRuneZ ((dec1 l).1 : Nat) = ([bt l 0, bt l 1, bt l 2, bt l 3].take (dec1 l).2).map fun n : Nat => (n : Int) := he
  rw [he2]
  generalize (dec1 l).2 = n at *
  have ht : (([bt l 0, bt l 1, bt l 2, bt l 3].take n).map fun n : Nat => (n : Int)) = (l.take n).map fun b : UInt8 => (b.toNat : Int) := by
    have hg : ∀ i, i < l.length → l[i]? = some (l.getD i 0) := by
      intro i hi
      rw [List.getD_eq_getElem?_getD, List.getElem?_eq_getElem hi]; rfl
    apply List.ext_getElem?
    intro i
    simp only [List.getElem?_map, List.getElem?_take]
    by_cases hi : i < n
    · rw [if_pos hi, if_pos hi, hg i (by omega)]
      rcases (by omega : i = 0 ∨ i = 1 ∨ i = 2 ∨ i = 3) with rfl | rfl | rfl | rfl <;> rfl
    · rw [if_neg hi, if_neg hi]; rfl
  rw [ht, ← List.map_append, List.take_append_drop]
/-- the byte at a place goes on with what has begun -/
def okAt (l : List UInt8) (k : Nat) : Prop := k < most (bt l 0) ∧ k < l.length ∧ (if k = 1 then low (bt l 0) else 128) ≤ bt l k ∧ bt l k ≤ (if k = 1 then high (bt l 0) else 191)
theorem most_le (c : Nat) : 1 ≤ most c ∧ most c ≤ 4 := by
  unfold most
  by_cases h1 : 194 ≤ c ∧ c ≤ 223
  · rw [if_pos h1]; omega
  · rw [if_neg h1]
    by_cases h2 : 224 ≤ c ∧ c ≤ 239
    · rw [if_pos h2]; omega
    · rw [if_neg h2]
      by_cases h3 : 240 ≤ c ∧ c ≤ 244
      · rw [if_pos h3]; omega
      · rw [if_neg h3]; omega
theorem beg_stop (l : List UInt8) (k : Nat) (h1 : 1 ≤ k) (hk : k ≤ 4) (hall : ∀ j, 1 ≤ j → j < k → okAt l j) (hno : ¬ okAt l k) : beg l = k := by
  have hm := (most_le (bt l 0)).2
  unfold beg begN
  unfold okAt at hall hno
  rcases (by omega : k = 1 ∨ k = 2 ∨ k = 3 ∨ k = 4) with rfl | rfl | rfl | rfl
  · rw [if_neg]
    intro h; exact hno (by simpa using h)
  · have a1 := hall 1 (by omega) (by omega)
    rw [if_pos (by simpa using a1), if_neg]
    intro h; exact hno (by simpa using h)
  · have a1 := hall 1 (by omega) (by omega)
    have a2 := hall 2 (by omega) (by omega)
    rw [if_pos (by simpa using a1), if_pos (by simpa using a2), if_neg]
    intro h; exact hno (by simpa using h)
  · have a1 := hall 1 (by omega) (by omega)
    have a2 := hall 2 (by omega) (by omega)
    have a3 := hall 3 (by omega) (by omega)
    rw [if_pos (by simpa using a1), if_pos (by simpa using a2), if_pos (by simpa using a3)]
end Txt
end Go.Proofs.YtnldobfafaajjaaDoor
