/- Plain Lean: sums of texts by a register. No program in sight. -/
import Derived.Test.YtdjddiajnalffaaMem
namespace Go.Proofs.Ytdjddiajnalffaa
open Go.RowKit
set_option linter.unusedVariables false
set_option linter.unusedSimpArgs false

/-- how a sum is made -/
structure SumP where
  w : Nat
  p : Nat
  t : Bool
  i : Nat
  o : Nat
/-- as it can be -/
structure SumP.Ok (m : SumP) : Prop where
  w : m.w = 8 ∨ m.w = 16 ∨ m.w = 32
  p : m.p < 2 ^ m.w
  odd : m.p % 2 = 1
  i : m.i < 2 ^ m.w
  o : m.o < 2 ^ m.w

def turnTo (n : Nat) : Nat → Nat
  | 0 => 0
  | k + 1 => turnTo n k * 2 + n / 2 ^ k % 2
def stepB (w p r : Nat) : Nat := (r * 2 % 2 ^ w) ^^^ (p * (r / 2 ^ (w - 1) % 2))
def stepK (w p r : Nat) : Nat → Nat
  | 0 => r
  | k + 1 => stepB w p (stepK w p r k)
def cOf (m : SumP) (c : Nat) : Nat := if m.t then turnTo c 8 else c
def stepN (m : SumP) (r c : Nat) : Nat := stepK m.w m.p (r ^^^ cOf m c * 2 ^ (m.w - 8)) 8
def foldN (m : SumP) (r : Nat) : List UInt8 → Nat
  | [] => r
  | c :: l => foldN m (stepN m r c.toNat) l
def outN (m : SumP) (r : Nat) : Nat := (if m.t then turnTo r m.w else r) ^^^ m.o
def ofN (m : SumP) (l : List UInt8) : Nat := outN m (foldN m m.i l)

theorem turnTo_lt (n k : Nat) : turnTo n k < 2 ^ k := by
  induction k with
  | zero => simp [turnTo]
  | succ k ih => have : n / 2 ^ k % 2 < 2 := Nat.mod_lt _ (by decide); rw [turnTo, Nat.pow_succ]; omega
theorem foldN_snoc (m : SumP) (l : List UInt8) (c : UInt8) : ∀ r, foldN m r (l ++ [c]) = stepN m (foldN m r l) c.toNat := by
  induction l with
  | nil => intro r; rfl
  | cons x l ih => intro r; exact ih _
theorem foldN_append (m : SumP) (a b : List UInt8) : ∀ r, foldN m r (a ++ b) = foldN m (foldN m r a) b := by
  induction a with
  | nil => intro r; rfl
  | cons x a ih => intro r; exact ih _
theorem foldN_take (m : SumP) (r : Nat) (l : List UInt8) (k : Nat) (h : k < l.length) : foldN m r (l.take (k + 1)) = stepN m (foldN m r (l.take k)) (l.getD k 0).toNat := by
  rw [List.take_succ_eq_append_getElem h, foldN_snoc, List.getD_eq_getElem?_getD, List.getElem?_eq_getElem h]; rfl
theorem stepB_lt (w p r : Nat) (hp : p < 2 ^ w) : stepB w p r < 2 ^ w := by
  unfold stepB
  apply Nat.xor_lt_two_pow (Nat.mod_lt _ (Nat.pow_pos (by decide)))
  have : r / 2 ^ (w - 1) % 2 < 2 := Nat.mod_lt _ (by decide)
  generalize r / 2 ^ (w - 1) % 2 = b at *
  obtain rfl | rfl : b = 0 ∨ b = 1 := by omega
  · simpa using Nat.pow_pos (by decide)
  · simpa using hp
theorem stepK_lt (w p r k : Nat) (hp : p < 2 ^ w) (hr : r < 2 ^ w) : stepK w p r k < 2 ^ w := by
  cases k with
  | zero => exact hr
  | succ k => exact stepB_lt _ _ _ hp
theorem cOf_lt (m : SumP) (c : Nat) (hc : c < 256) : cOf m c < 256 := by
  unfold cOf; split
  · exact turnTo_lt c 8
  · exact hc
theorem cOf_shift_lt (m : SumP) (h : m.Ok) (c : Nat) (hc : c < 256) : cOf m c * 2 ^ (m.w - 8) < 2 ^ m.w := by
  have h1 := cOf_lt m c hc
  have e : 2 ^ m.w = 256 * 2 ^ (m.w - 8) := by
    rw [show (256 : Nat) = 2 ^ 8 from rfl, ← Nat.pow_add]; congr 1; have := h.w; omega
  rw [e]
  exact Nat.mul_lt_mul_of_pos_right h1 (Nat.pow_pos (by decide))
theorem stepN_lt (m : SumP) (h : m.Ok) (r c : Nat) (hr : r < 2 ^ m.w) (hc : c < 256) : stepN m r c < 2 ^ m.w :=
  stepK_lt _ _ _ _ h.p (Nat.xor_lt_two_pow hr (cOf_shift_lt m h c hc))
theorem foldN_lt (m : SumP) (h : m.Ok) : ∀ l r, r < 2 ^ m.w → foldN m r l < 2 ^ m.w
  | [], r, hr => hr
  | c :: l, r, hr => foldN_lt m h l _ (stepN_lt m h r _ hr (UInt8.toNat_lt _))
theorem outN_lt (m : SumP) (h : m.Ok) (r : Nat) (hr : r < 2 ^ m.w) : outN m r < 2 ^ m.w := by
  unfold outN
  apply Nat.xor_lt_two_pow _ h.o
  split
  · exact turnTo_lt _ _
  · exact hr
theorem w_le (m : SumP) (h : m.Ok) : 2 ^ m.w ≤ 4294967296 := by
  rcases h.w with e | e | e <;> rw [e] <;> decide

/-! LINEAR -/
theorem bit_xor (a b k : Nat) : (a ^^^ b) / 2 ^ k % 2 = (a / 2 ^ k % 2) ^^^ (b / 2 ^ k % 2) := by
  simp only [← Nat.toNat_testBit, Nat.testBit_xor]
  cases a.testBit k <;> cases b.testBit k <;> rfl
theorem turnTo_xor (a b : Nat) : ∀ k, turnTo (a ^^^ b) k = turnTo a k ^^^ turnTo b k
  | 0 => by simp [turnTo]
  | k + 1 => by
    simp only [turnTo]
    rw [turnTo_xor a b k, bit_xor]
    have ha : a / 2 ^ k % 2 < 2 := Nat.mod_lt _ (by decide)
    have hb : b / 2 ^ k % 2 < 2 := Nat.mod_lt _ (by decide)
    generalize a / 2 ^ k % 2 = x at *
    generalize b / 2 ^ k % 2 = y at *
    have hxy : x ^^^ y < 2 := Nat.xor_lt_two_pow (n := 1) ha hb
    have j : ∀ n v, v < 2 → n * 2 + v = n * 2 ||| v := fun n v hv => (nat_join 1 (n * 2) v (by simp) (by omega)).symm
    rw [show ∀ n v, n * 2 + v = 2 * n + v from fun n v => by omega, show ∀ n v, n * 2 + v = 2 * n + v from fun n v => by omega, show turnTo b k * 2 + y = 2 * turnTo b k + y from by omega]
    apply Nat.eq_of_testBit_eq
    intro i
    have key := fun (n v : Nat) (hv : v < 2 ^ 1) => Nat.testBit_two_pow_mul_add (i := 1) n hv i
    simp only [Nat.pow_one] at key
    rw [Nat.testBit_xor, key _ _ hxy, key _ _ ha, key _ _ hb]
    split <;> simp [Nat.testBit_xor]
theorem shl_xor (a b w : Nat) : (a ^^^ b) * 2 % 2 ^ w = (a * 2 % 2 ^ w) ^^^ (b * 2 % 2 ^ w) := by
  apply Nat.eq_of_testBit_eq
  intro i
  have e : ∀ n, n * 2 = n * 2 ^ 1 := fun n => by simp
  rw [e, e a, e b]
  simp only [Nat.testBit_xor, Nat.testBit_mod_two_pow, Nat.testBit_mul_two_pow]
  cases decide (i < w) <;> cases decide (i ≥ 1) <;> simp
theorem mul_bit_xor (p x y : Nat) (hx : x < 2) (hy : y < 2) : p * (x ^^^ y) = (p * x) ^^^ (p * y) := by
  obtain rfl | rfl : x = 0 ∨ x = 1 := by omega
  · simp
  · obtain rfl | rfl : y = 0 ∨ y = 1 := by omega
    · simp
    · simp
theorem xor_4 (a b c d : Nat) : (a ^^^ b) ^^^ (c ^^^ d) = (a ^^^ c) ^^^ (b ^^^ d) := by
  rw [Nat.xor_assoc, Nat.xor_assoc, ← Nat.xor_assoc b c d, Nat.xor_comm b c, Nat.xor_assoc c b d]
theorem stepB_xor (w p a b : Nat) : stepB w p (a ^^^ b) = stepB w p a ^^^ stepB w p b := by
  unfold stepB
  rw [shl_xor, bit_xor, mul_bit_xor _ _ _ (Nat.mod_lt _ (by decide)) (Nat.mod_lt _ (by decide)), xor_4]
theorem stepK_xor (w p a b : Nat) : ∀ k, stepK w p (a ^^^ b) k = stepK w p a k ^^^ stepK w p b k
  | 0 => rfl
  | k + 1 => by simp only [stepK]; rw [stepK_xor w p a b k, stepB_xor]
theorem mul_pow_xor (a b k : Nat) : (a ^^^ b) * 2 ^ k = (a * 2 ^ k) ^^^ (b * 2 ^ k) := by
  apply Nat.eq_of_testBit_eq
  intro i
  simp only [Nat.testBit_xor, Nat.testBit_mul_two_pow]
  cases decide (i ≥ k) <;> simp
theorem cOf_xor (m : SumP) (a b : Nat) : cOf m (a ^^^ b) = cOf m a ^^^ cOf m b := by
  unfold cOf; split
  · exact turnTo_xor a b 8
  · rfl
theorem stepN_xor (m : SumP) (r s a b : Nat) : stepN m (r ^^^ s) (a ^^^ b) = stepN m r a ^^^ stepN m s b := by
  unfold stepN
  rw [cOf_xor, mul_pow_xor, xor_4, stepK_xor]
def xorV (a b : List UInt8) : List UInt8 := List.zipWith (fun x y => UInt8.ofNat (x.toNat ^^^ y.toNat)) a b
theorem xor_byte (x y : UInt8) : (UInt8.ofNat (x.toNat ^^^ y.toNat)).toNat = x.toNat ^^^ y.toNat := by
  have hx := UInt8.toNat_lt x
  have hy := UInt8.toNat_lt y
  rw [UInt8.toNat_ofNat']
  exact Nat.mod_eq_of_lt (Nat.xor_lt_two_pow (n := 8) hx hy)
theorem foldN_xor (m : SumP) : ∀ (a b : List UInt8) (r s : Nat), a.length = b.length → foldN m (r ^^^ s) (xorV a b) = foldN m r a ^^^ foldN m s b
  | [], [], _, _, _ => rfl
  | x :: a, y :: b, r, s, h => by
    show foldN m (stepN m (r ^^^ s) (UInt8.ofNat (x.toNat ^^^ y.toNat)).toNat) (xorV a b) = _
    rw [xor_byte, stepN_xor]
    exact foldN_xor m a b _ _ (by simpa using h)
theorem xorV_length (a b : List UInt8) : (xorV a b).length = min a.length b.length := by simp [xorV]
theorem ofN_linear (m : SumP) (a b c : List UInt8) (h1 : a.length = b.length) (h2 : b.length = c.length) : ofN m (xorV (xorV a b) c) = (ofN m a ^^^ ofN m b) ^^^ ofN m c := by
  unfold ofN
  have e : foldN m m.i (xorV (xorV a b) c) = (foldN m m.i a ^^^ foldN m m.i b) ^^^ foldN m m.i c := by
    have h3 := foldN_xor m a b m.i m.i h1
    have h4 := foldN_xor m (xorV a b) c (m.i ^^^ m.i) m.i (by rw [xorV_length]; omega)
    rw [h3] at h4
    rw [← h4]
    congr 1
    simp
  rw [e]
  unfold outN
  have : ∀ x y z o : Nat, (x ^^^ y ^^^ z) ^^^ o = ((x ^^^ o) ^^^ (y ^^^ o)) ^^^ (z ^^^ o) := by
    intro x y z o
    rw [xor_4 x o y o, Nat.xor_self, Nat.xor_zero, ← Nat.xor_assoc]
  split
  · rw [turnTo_xor, turnTo_xor, this]
  · rw [this]

/-! the walk's own forms -/
theorem and_one32 (x : Nat) (hx : x < 4294967296) : bits .and .u32 (x : Int) 1 = ((x % 2 : Nat) : Int) := by
  have := u32_and_nat x 1 hx (by decide)
  rw [nat_mask1] at this
  exact this
theorem turn_step (n t k : Nat) (ht : t < 2 ^ k) (hk : k < 32) (hn : n < 4294967296) (hT : turnTo n k = t) :
    bits .or .u32 (IntKind.u32.wrap ((t : Int) * 2)) (bits .and .u32 ((n / 2 ^ k : Nat) : Int) 1) = ((turnTo n (k + 1) : Nat) : Int) := by
  have h1 : n / 2 ^ k ≤ n := Nat.div_le_self _ _
  have h2 : 2 ^ k ≤ 2 ^ 31 := Nat.pow_le_pow_right (by decide) (by omega)
  have e : ((t : Int) * 2) = ((t * 2 : Nat) : Int) := by simp
  rw [and_one32 _ (by omega), e, IntWalk.u32_in _ ⟨by omega, by omega⟩, u32_or_nat _ _ (by omega) (by omega), nat_join 1 _ _ (by simp) (by omega), turnTo, hT]
theorem half_cast (n k : Nat) : ((n / 2 ^ k : Nat) : Int) / 2 = ((n / 2 ^ (k + 1) : Nat) : Int) := by
  rw [Nat.pow_succ, ← Nat.div_div_eq_div_mul]; simp
theorem r0_form (r c k : Nat) (hr : r < 4294967296) (h : c * 2 ^ k < 4294967296) :
    bits .xor .u32 (r : Int) ((c : Int) * 2 ^ k % 4294967296) = ((r ^^^ c * 2 ^ k : Nat) : Int) := by
  have e : ((c : Int) * 2 ^ k % 4294967296) = ((c * 2 ^ k : Nat) : Int) := by
    rw [show ((c : Int) * 2 ^ k) = ((c * 2 ^ k : Nat) : Int) from by simp]; omega
  rw [e, u32_xor_nat _ _ hr h]
theorem top_form (r k : Nat) (hr : r < 4294967296) : bits .and .u32 ((r : Int) / 2 ^ k) 1 = ((r / 2 ^ k % 2 : Nat) : Int) := by
  have h : r / 2 ^ k ≤ r := Nat.div_le_self _ _
  rw [show ((r : Int) / 2 ^ k) = ((r / 2 ^ k : Nat) : Int) from by simp]
  exact and_one32 _ (by omega)
theorem step_form (w p r x : Nat) (hw : w = 8 ∨ w = 16 ∨ w = 32) (hp : p < 2 ^ w) (hr : r < 2 ^ w) (hx : r / 2 ^ (w - 1) % 2 = x) :
    bits .and .u32 (IntKind.u32.wrap ((r : Int) * 2)) ((2 ^ w - 1 : Nat) : Int) = ((r * 2 % 2 ^ w : Nat) : Int) ∧ IntKind.u32.wrap ((p : Int) * (x : Int)) = ((p * x : Nat) : Int) ∧
    bits .xor .u32 ((r * 2 % 2 ^ w : Nat) : Int) ((p * x : Nat) : Int) = ((stepB w p r : Nat) : Int) := by
  have hl : 2 ^ w ≤ 4294967296 := by rcases hw with e | e | e <;> rw [e] <;> decide
  have h0 : 0 < 2 ^ w := Nat.pow_pos (by decide)
  have hx2 : x < 2 := by rw [← hx]; exact Nat.mod_lt _ (by decide)
  have hpx : p * x ≤ p * 1 := Nat.mul_le_mul_left _ (by omega)
  have hm : r * 2 % 2 ^ w < 2 ^ w := Nat.mod_lt _ h0
  refine ⟨?_, ?_, ?_⟩
  · have e : IntKind.u32.wrap ((r : Int) * 2) = ((r * 2 % 4294967296 : Nat) : Int) := by rw [IntKind.wrap_u32']; omega
    rw [e, u32_and_nat _ _ (Nat.mod_lt _ (by decide)) (by omega), Nat.and_two_pow_sub_one_eq_mod]
    congr 1
    rw [show (4294967296 : Nat) = 2 ^ 32 from rfl, show 2 ^ 32 = 2 ^ w * 2 ^ (32 - w) from by rw [← Nat.pow_add]; congr 1; omega]
    exact Nat.mod_mul_right_mod _ _ _
  · rw [← Int.natCast_mul]; exact IntWalk.u32_in _ ⟨by omega, by omega⟩
  · rw [u32_xor_nat _ _ (by omega) (by omega), stepB, hx]
end Go.Proofs.Ytdjddiajnalffaa
