/- Bytes as lines that show them, and back, in plain words. -/
import Derived.Test.YtnmbakibiaedhaaDoorDigitsB
namespace Go.Proofs.YtnmbakibiaedhaaDoor
set_option linter.unusedVariables false
set_option linter.unusedSimpArgs false
namespace Xx
open Digits
/-- what stands behind a line's place is read as -/
inductive Toks : List UInt8 → List UInt8 → Prop where
  | nil : Toks [] []
  | stop (r : List UInt8) : Toks (32 :: 32 :: r) []
  | blank {r o : List UInt8} : r.getD 0 0 ≠ 32 → Toks r o → Toks (32 :: r) o
  | byte {c d : UInt8} {h k : Nat} {r o : List UInt8} : c ≠ 32 → Keys.dig c.toNat = (h : Int) → Keys.dig d.toNat = (k : Int) → Toks r o → Toks (c :: d :: r) (UInt8.ofNat (16 * h + k) :: o)
theorem two_ok : ∀ n : Fin 256, UInt8.ofNat (fig ((n : Nat) / 16)) ≠ 32 ∧ UInt8.ofNat (fig ((n : Nat) / 16)) ≠ 10 ∧ UInt8.ofNat (fig ((n : Nat) % 16)) ≠ 10 ∧ UInt8.ofNat (fig ((n : Nat) / 16)) ≠ 58 ∧ UInt8.ofNat (fig ((n : Nat) % 16)) ≠ 58 ∧ Keys.dig (UInt8.ofNat (fig ((n : Nat) / 16))).toNat = (((n : Nat) / 16 : Nat) : Int) ∧ Keys.dig (UInt8.ofNat (fig ((n : Nat) % 16))).toNat = (((n : Nat) % 16 : Nat) : Int) := by decide +kernel
theorem two_of (b : UInt8) : (two b).getD 0 0 ≠ 32 ∧ 10 ∉ two b ∧ 58 ∉ two b ∧ (two b).length = 2 := by
  have h := two_ok ⟨b.toNat, b.toNat_lt⟩
  obtain ⟨h1, h2, h3, h4, h5, _⟩ := h
  refine ⟨h1, ?_, ?_, rfl⟩
  · simp only [two, List.mem_cons, List.not_mem_nil, or_false, not_or]
    exact ⟨fun e => h2 e.symm, fun e => h3 e.symm⟩
  · simp only [two, List.mem_cons, List.not_mem_nil, or_false, not_or]
    exact ⟨fun e => h4 e.symm, fun e => h5 e.symm⟩
theorem toks_two (b : UInt8) {r o : List UInt8} (h : Toks r o) : Toks (two b ++ r) (b :: o) := by
  obtain ⟨h1, _, _, _, _, h6, h7⟩ := two_ok ⟨b.toNat, b.toNat_lt⟩
  have := Toks.byte h1 h6 h7 h
  have e : UInt8.ofNat (16 * (b.toNat / 16) + b.toNat % 16) = b := by rw [Nat.div_add_mod]; simp
  simp only [e] at this
  exact this
theorem toks_hex : ∀ (l : List UInt8), Toks (hex l) l
  | [] => .nil
  | b :: l => by
    have : hex (b :: l) = two b ++ hex l := by simp [hex]
    rw [this]
    exact toks_two b (toks_hex l)
/-- bytes as digits, a blank ahead of each group -/
def grp (g : Nat) : Nat → List UInt8 → List UInt8
  | _, [] => []
  | i, b :: r => (if i % g = 0 then 32 :: two b else two b) ++ grp g (i + 1) r
theorem toks_grp (g : Nat) (t : List UInt8) : ∀ (l : List UInt8) (i : Nat), Toks (grp g i l ++ 32 :: 32 :: t) l
  | [], _ => .stop t
  | b :: l, i => by
    have ih := toks_two b (toks_grp g t l (i + 1))
    unfold grp
    by_cases h : i % g = 0
    · rw [if_pos h, List.append_assoc]
      refine Toks.blank ?_ ih
      have := (two_of b).1
      simpa [two] using this
    · rw [if_neg h, List.append_assoc]
      exact ih
theorem grp_snoc (g : Nat) (b : UInt8) : ∀ (l : List UInt8) (i : Nat), grp g i (l ++ [b]) = grp g i l ++ (if (i + l.length) % g = 0 then 32 :: two b else two b)
  | [], i => by simp [grp]
  | x :: l, i => by
    have ih := grp_snoc g b l (i + 1)
    rw [List.cons_append]
    unfold grp
    rw [ih, List.append_assoc, List.length_cons, show i + 1 + l.length = i + (l.length + 1) by omega]
theorem ceil_succ (g n : Nat) (hg : 1 ≤ g) : (n + 1 + g - 1) / g = (n + g - 1) / g + (if n % g = 0 then 1 else 0) := by
  have e := Nat.div_add_mod n g
  have hlt := Nat.mod_lt n (show 0 < g from hg)
  obtain ⟨q, hq⟩ : ∃ q, q = n / g := ⟨_, rfl⟩
  obtain ⟨r, hr⟩ : ∃ r, r = n % g := ⟨_, rfl⟩
  rw [← hq, ← hr] at e
  rw [← hr] at hlt ⊢
  have e1 : (n + 1 + g - 1) / g = q + 1 := by
    rw [show n + 1 + g - 1 = r + g * (q + 1) by rw [Nat.mul_add]; omega, Nat.add_mul_div_left _ _ (show 0 < g from hg), Nat.div_eq_of_lt hlt]; omega
  rw [e1]
  by_cases h : r = 0
  · rw [if_pos h, show n + g - 1 = (g - 1) + g * q by omega, Nat.add_mul_div_left _ _ (show 0 < g from hg), Nat.div_eq_of_lt (by omega)]; omega
  · rw [if_neg h, show n + g - 1 = (r - 1) + g * (q + 1) by rw [Nat.mul_add]; omega, Nat.add_mul_div_left _ _ (show 0 < g from hg), Nat.div_eq_of_lt (by omega)]; omega
theorem grp_length (g : Nat) (hg : 1 ≤ g) (l : List UInt8) : (grp g 0 l).length = 2 * l.length + (l.length + g - 1) / g := by
  obtain ⟨n, hn⟩ : ∃ n, n = l.length := ⟨_, rfl⟩
  induction n generalizing l with
  | zero =>
    obtain rfl := List.eq_nil_of_length_eq_zero hn.symm
    simp [grp, Nat.div_eq_of_lt (show g - 1 < g by omega)]
  | succ n ih =>
    have hne : l ≠ [] := by intro e; subst e; simp at hn
    have hl := List.dropLast_concat_getLast hne
    have hd : l.dropLast.length = n := by rw [List.length_dropLast]; omega
    rw [← hl, grp_snoc, List.length_append, ih _ hd.symm, List.length_append, hd, Nat.zero_add]
    have := ceil_succ g n hg
    simp only [List.length_cons, List.length_nil, Nat.zero_add]
    rw [this]
    split <;> simp [(two_of _).2.2.2] <;> omega
theorem grp_few (g c : Nat) (hg : 1 ≤ g) (l : List UInt8) (h : l.length ≤ c) : (grp g 0 l).length ≤ 2 * c + (c + g - 1) / g := by
  rw [grp_length g hg]
  have := Nat.div_le_div_right (c := g) (show l.length + g - 1 ≤ c + g - 1 by omega)
  omega
theorem grp_no (g : Nat) (x : UInt8) (hx : x = 10 ∨ x = 58) : ∀ (l : List UInt8) (i : Nat), x ∉ grp g i l
  | [], _ => by simp [grp]
  | b :: l, i => by
    have ih := grp_no g x hx l (i + 1)
    have h2 : x ∉ two b := by rcases hx with rfl | rfl; exact (two_of b).2.1; exact (two_of b).2.2.1
    unfold grp
    rw [List.mem_append, not_or]
    refine ⟨?_, ih⟩
    split
    · rw [List.mem_cons, not_or]
      exact ⟨by rcases hx with rfl | rfl <;> decide, h2⟩
    · exact h2
theorem grp_start (g : Nat) (l t : List UInt8) (h : l ≠ []) : (grp g 0 l ++ t).take 2 ≠ [32, 32] := by
  cases l with
  | nil => exact absurd rfl h
  | cons b l =>
    have := (two_of b).1
    simp only [two, List.getD_cons_zero] at this
    simp [grp, two, this]
theorem hex_no (x : UInt8) (hx : x = 10 ∨ x = 58) : ∀ (l : List UInt8), x ∉ hex l
  | [] => by simp [hex]
  | b :: l => by
    have ih := hex_no x hx l
    have h2 : x ∉ two b := by rcases hx with rfl | rfl; exact (two_of b).2.1; exact (two_of b).2.2.1
    have : hex (b :: l) = two b ++ hex l := by simp [hex]
    rw [this, List.mem_append, not_or]
    exact ⟨h2, ih⟩
theorem hex_start (l : List UInt8) : (hex l).take 2 ≠ [32, 32] := by
  cases l with
  | nil => simp [hex]
  | cons b l =>
    have := (two_of b).1
    simp only [two, List.getD_cons_zero] at this
    simp [hex, two, this]
/-- the bytes as they are shown -/
def shown (l : List UInt8) : List UInt8 := l.map fun c => if c.toNat < 32 ∨ 126 < c.toNat then 46 else c
theorem shown_no (l : List UInt8) : 10 ∉ shown l := by
  intro h
  unfold shown at h
  rw [List.mem_map] at h
  obtain ⟨c, _, hc⟩ := h
  split at hc
  · cases hc
  · subst hc
    rename_i h
    exact h (.inl (by decide))
theorem ds_no (x : UInt8) (hx : x = 10 ∨ x = 58) (n j : Nat) : x ∉ ds 16 n j := by
  unfold ds
  rw [List.mem_reverse, List.mem_map]
  rintro ⟨i, _, rfl⟩
  have h := fig_lt (dg 16 n i) (dg_lt 16 n i (by decide))
  have e := fig_toNat (dg 16 n i) (dg_lt 16 n i (by decide))
  have h2 : fig (dg 16 n i) ≠ 58 := by have := dg_lt 16 n i (by decide); unfold fig; split <;> omega
  rcases hx with hx | hx
  · have := congrArg UInt8.toNat hx; rw [e] at this; simp at this; omega
  · have := congrArg UInt8.toNat hx; rw [e] at this; exact h2 this
/-- a line, and what it tells: where its bytes begin, and its bytes -/
inductive Ln : List UInt8 → Option Nat → List UInt8 → Prop where
  | plain {r b : List UInt8} : 58 ∉ r → Toks r b → r.take 2 ≠ [32, 32] → Ln r none b
  | placed {r b : List UInt8} (n : Nat) : n ≤ 4000 → Toks r b → r.take 2 ≠ [32, 32] → Ln (ds 16 n 8 ++ 58 :: r) (some n) b
/-- one line more -/
def step (out : List UInt8) (a : Option Nat) (b : List UInt8) : List UInt8 :=
  if b = [] then out else
    (out ++ List.replicate (a.getD out.length + b.length - out.length) 0).take (a.getD out.length) ++ b ++ (out ++ List.replicate (a.getD out.length + b.length - out.length) 0).drop (a.getD out.length + b.length)
def told (L : List (Option Nat × List UInt8)) : List UInt8 := L.foldl (fun o x => step o x.1 x.2) []
theorem told_snoc (L : List (Option Nat × List UInt8)) (x : Option Nat × List UInt8) : told (L ++ [x]) = step (told L) x.1 x.2 := by simp [told]
theorem step_end (out : List UInt8) (a : Option Nat) (b : List UInt8) (h : a.getD out.length = out.length) : step out a b = out ++ b := by
  unfold step
  by_cases hb : b = []
  · rw [if_pos hb, hb, List.append_nil]
  · rw [if_neg hb, h, List.take_append_of_le_length (Nat.le_refl _), List.take_of_length_le (Nat.le_refl _), List.drop_eq_nil_of_le (by simp), List.append_nil]
theorem step_ahead (n : Nat) (T b : List UInt8) (hb : b ≠ []) : step (if T = [] then [] else List.replicate (n + b.length) 0 ++ T) (some n) b = List.replicate n 0 ++ b ++ T := by
  unfold step
  rw [if_neg hb, Option.getD_some]
  by_cases hT : T = []
  · rw [if_pos hT, hT, List.nil_append, List.length_nil, List.take_replicate, List.drop_replicate]
    rw [show min n (n + b.length - 0) = n by omega, show n + b.length - 0 - (n + b.length) = 0 by omega, List.replicate_zero]
  · rw [if_neg hT]
    have e : n + b.length - (List.replicate (n + b.length) 0 ++ T).length = 0 := by rw [List.length_append, List.length_replicate]; omega
    rw [e, List.replicate_zero, List.append_nil, List.take_append_of_le_length (by rw [List.length_replicate]; omega), List.take_replicate, show min n (n + b.length) = n by omega]
    rw [List.drop_append, List.length_replicate, Nat.sub_self, List.drop_zero, List.drop_replicate, Nat.sub_self, List.replicate_zero, List.nil_append]
/-- the lines, one behind the other -/
def joinNl : List (List UInt8) → List UInt8
  | [] => []
  | [x] => x
  | x :: y :: r => x ++ 10 :: joinNl (y :: r)
theorem joinNl_cons (x : List UInt8) (r : List (List UInt8)) (h : r ≠ []) : joinNl (x :: r) = x ++ 10 :: joinNl r := by
  cases r with
  | nil => exact absurd rfl h
  | cons y r => rfl
theorem joinNl_end : ∀ L : List (List UInt8), joinNl (L ++ [[]]) = L.flatMap (· ++ [10])
  | [] => rfl
  | x :: L => by
    rw [List.cons_append, joinNl_cons _ _ (by simp), joinNl_end L]
    simp
/-- a row's bytes -/
def row (s : List UInt8) (c k : Nat) : List UInt8 := (s.drop (k * c)).take c
def rows (s : List UInt8) (c : Nat) : Nat := (s.length + c - 1) / c
theorem rows_lt (s : List UInt8) (c k : Nat) (hc : 1 ≤ c) : k < rows s c ↔ k * c < s.length := by
  unfold rows
  rw [Nat.lt_iff_add_one_le, Nat.le_div_iff_mul_le (by omega), Nat.add_mul]
  omega
theorem rows_le (s : List UInt8) (c : Nat) (hc : 1 ≤ c) : s.length ≤ rows s c * c := by
  have h := rows_lt s c (rows s c) hc
  omega
theorem row_ne (s : List UInt8) (c k : Nat) (hc : 1 ≤ c) (h : k * c < s.length) : row s c k ≠ [] := by
  intro e
  have := congrArg List.length e
  rw [row, List.length_take, List.length_drop, List.length_nil] at this
  omega
theorem row_len (s : List UInt8) (c k : Nat) : (row s c k).length ≤ c := by rw [row, List.length_take]; omega
theorem row_take (s : List UInt8) (c k : Nat) : s.take (k * c) ++ row s c k = s.take ((k + 1) * c) := by
  rw [row, Nat.add_mul, Nat.one_mul, List.take_add]
theorem row_drop (s : List UInt8) (c k : Nat) : row s c k ++ s.drop ((k + 1) * c) = s.drop (k * c) := by
  rw [row, Nat.add_mul, Nat.one_mul, ← List.drop_drop, List.take_append_drop]
/-- a line that shows bytes -/
def lineOf (c g at_ : Nat) (r : List UInt8) : List UInt8 := ds 16 at_ 8 ++ 58 :: (grp g 0 r ++ (List.replicate (2 * c + (c + g - 1) / g - (grp g 0 r).length + 2) 32 ++ shown r))
theorem lineOf_ln (c g at_ : Nat) (r : List UInt8) (h : r ≠ []) (ha : at_ ≤ 4000) : Ln (lineOf c g at_ r) (some at_) r := by
  unfold lineOf
  refine Ln.placed at_ ha ?_ (grp_start g r _ h)
  rw [List.replicate_succ, List.replicate_succ]
  exact toks_grp g _ r 0
theorem lineOf_no (c g at_ : Nat) (r : List UInt8) : 10 ∉ lineOf c g at_ r := by
  unfold lineOf
  simp only [List.mem_append, List.mem_cons, List.mem_replicate, not_or]
  exact ⟨ds_no 10 (.inl rfl) _ _, by decide, grp_no g 10 (.inl rfl) r 0, fun h => absurd h.2 (by decide), shown_no r⟩
theorem lineOf_length (c g at_ : Nat) (hg : 1 ≤ g) (r : List UInt8) (h : r.length ≤ c) : (lineOf c g at_ r).length = 11 + (2 * c + (c + g - 1) / g) + r.length := by
  have := grp_few g c hg r h
  unfold lineOf
  simp only [List.length_append, List.length_cons, List.length_replicate, ds_length, shown, List.length_map]
  omega
def linesOf (s : List UInt8) (c g : Nat) (n : Nat) : List (List UInt8) := (List.range n).map fun k => lineOf c g (k * c) (row s c k)
def dump (s : List UInt8) (c g : Nat) (n : Nat) : List UInt8 := (linesOf s c g n).flatMap (· ++ [10])
theorem dump_succ (s : List UInt8) (c g n : Nat) : dump s c g (n + 1) = dump s c g n ++ (lineOf c g (n * c) (row s c n) ++ [10]) := by
  simp [dump, linesOf, List.range_succ]
/-- what the lines tell, in order -/
def tells (s : List UInt8) (c n : Nat) : List (Option Nat × List UInt8) := (List.range n).map fun k => (some (k * c), row s c k)
theorem tells_told (s : List UInt8) (c : Nat) (hc : 1 ≤ c) : ∀ n, n ≤ rows s c → told (tells s c n) = s.take (n * c)
  | 0, _ => by simp [tells, told]
  | n + 1, h => by
    have ih := tells_told s c hc n (by omega)
    have hlt := (rows_lt s c n hc).1 (by omega)
    have e : tells s c (n + 1) = tells s c n ++ [(some (n * c), row s c n)] := by simp [tells, List.range_succ]
    rw [e, told_snoc, ih, step_end, row_take]
    simp only [Option.getD_some, List.length_take]
    omega
/-- .. and the other way round: the last k lines -/
def behind (s : List UInt8) (c : Nat) : Nat → Nat → List (Option Nat × List UInt8)
  | _, 0 => []
  | n, k + 1 => (some ((n - 1) * c), row s c (n - 1)) :: behind s c (n - 1) k
def ahead (s : List UInt8) (c k : Nat) : List UInt8 := if s.drop (k * c) = [] then [] else List.replicate (k * c) 0 ++ s.drop (k * c)
theorem step_back (s : List UInt8) (c k : Nat) (hc : 1 ≤ c) (h : k * c < s.length) : step (ahead s c (k + 1)) (some (k * c)) (row s c k) = ahead s c k := by
  have hne := row_ne s c k hc h
  have hd : s.drop (k * c) ≠ [] := fun e => by have := congrArg List.length e; rw [List.length_drop, List.length_nil] at this; omega
  have h1 : ahead s c (k + 1) = if s.drop ((k + 1) * c) = [] then [] else List.replicate (k * c + (row s c k).length) 0 ++ s.drop ((k + 1) * c) := by
    unfold ahead
    by_cases h9 : s.drop ((k + 1) * c) = []
    · rw [if_pos h9, if_pos h9]
    · rw [if_neg h9, if_neg h9]
      have : (k + 1) * c < s.length := by
        rcases Nat.lt_or_ge ((k + 1) * c) s.length with h | h
        · exact h
        · exact absurd (List.drop_eq_nil_of_le h) h9
      rw [Nat.add_mul, Nat.one_mul] at this
      have : (row s c k).length = c := by rw [row, List.length_take, List.length_drop]; omega
      rw [this, Nat.add_mul, Nat.one_mul]
  rw [h1, step_ahead _ _ _ hne, List.append_assoc, row_drop]
  unfold ahead
  rw [if_neg hd]
theorem back_told (s : List UInt8) (c : Nat) (hc : 1 ≤ c) : ∀ k n, n + k = rows s c → told ((List.range k).map fun i => (some ((rows s c - 1 - i) * c), row s c (rows s c - 1 - i))) = ahead s c n
  | 0, n, h => by
    have : s.drop (n * c) = [] := List.drop_eq_nil_of_le (by have := rows_le s c hc; rw [← h] at this; simpa using this)
    simp [told, ahead, this]
  | k + 1, n, h => by
    have ih := back_told s c hc k (n + 1) (by omega)
    rw [List.range_succ, List.map_append, List.map_cons, List.map_nil, told_snoc, ih, show rows s c - 1 - k = n by omega]
    exact step_back s c n hc ((rows_lt s c n hc).1 (by omega))
theorem ahead_zero (s : List UInt8) (c : Nat) : ahead s c 0 = s := by
  unfold ahead
  rw [Nat.zero_mul, List.drop_zero, List.replicate_zero, List.nil_append]
  by_cases h : s = []
  · rw [if_pos h, h]
  · rw [if_neg h]
theorem ahead_length (s : List UInt8) (c k : Nat) : (ahead s c k).length ≤ s.length := by
  unfold ahead
  by_cases h : s.drop (k * c) = []
  · rw [if_pos h]; simp
  · rw [if_neg h, List.length_append, List.length_replicate, List.length_drop]
    have : k * c < s.length := by
      rcases Nat.lt_or_ge (k * c) s.length with h' | h'
      · exact h'
      · exact absurd (List.drop_eq_nil_of_le h') h
    omega
/-- plain: sixty digits a line -/
def plainTo (s : List UInt8) (n : Nat) : List UInt8 := (List.range n).flatMap fun k => hex (row s 30 k) ++ [10]
theorem plainTo_succ (s : List UInt8) (n : Nat) : plainTo s (n + 1) = plainTo s n ++ (hex (row s 30 n) ++ [10]) := by simp [plainTo, List.range_succ]
theorem plainTo_join (s : List UInt8) (n : Nat) : plainTo s n = joinNl (((List.range n).map fun k => hex (row s 30 k)) ++ [[]]) := by
  rw [joinNl_end, plainTo, List.flatMap_map]
theorem plain_told (s : List UInt8) : ∀ n, n ≤ rows s 30 → told ((List.range n).map fun k => (none, row s 30 k)) = s.take (n * 30)
  | 0, _ => by simp [told]
  | n + 1, h => by
    have ih := plain_told s n (by omega)
    rw [List.range_succ, List.map_append, List.map_cons, List.map_nil, told_snoc, ih, step_end _ _ _ rfl, row_take]
end Xx
end Go.Proofs.YtnmbakibiaedhaaDoor
