/- Plain Lean: bits that are turned round about, counted, and each byte's bits the other way round. No program in sight. -/
import Derived.Test.YtlpockgofejogaaPlainBits
namespace Go.Proofs.Ytlpockgofejogaa
open Go.RowKit
set_option linter.unusedVariables false

def pop8 (x : Nat) : Nat := x % 2 + x / 2 % 2 + x / 4 % 2 + x / 8 % 2 + x / 16 % 2 + x / 32 % 2 + x / 64 % 2 + x / 128 % 2
def popV : List UInt8 → Nat
  | [] => 0
  | b :: l => pop8 b.toNat + popV l
theorem pop_step : ∀ b, b < 256 → 0 < b → (b &&& (b - 1)) < b ∧ pop8 (b &&& (b - 1)) + 1 = pop8 b := by unfold pop8; decide +kernel
theorem pop8_le (x : Nat) : pop8 x ≤ 8 := by unfold pop8; omega
theorem popV_le (l : List UInt8) : popV l ≤ 8 * l.length := by
  induction l with
  | nil => simp [popV]
  | cons b l ih => have := pop8_le b.toNat; simp only [popV, List.length_cons]; omega
theorem popV_append (a b : List UInt8) : popV (a ++ b) = popV a + popV b := by
  induction a with
  | nil => simp [popV]
  | cons x a ih => simp only [List.cons_append, popV, ih]; omega
theorem popV_snoc (l : List UInt8) (k : Nat) (h : k < l.length) : popV (l.take (k + 1)) = popV (l.take k) + pop8 (l.getD k 0).toNat := by
  rw [List.take_succ_eq_append_getElem h, popV_append, List.getD_eq_getElem?_getD, List.getElem?_eq_getElem h]
  simp [popV]

def t1 (x : Nat) : Nat := x / 16 ||| x * 16 % 256
def t2 (x : Nat) : Nat := (x / 4 &&& 51) ||| (x &&& 51) * 4
def t3 (x : Nat) : Nat := (x / 2 &&& 85) ||| (x &&& 85) * 2
def revN (x : Nat) : Nat := t3 (t2 (t1 x))
def revB (b : UInt8) : UInt8 := UInt8.ofNat (revN b.toNat)
theorem t_lt : ∀ x, x < 256 → t1 x < 256 ∧ t2 x < 256 ∧ t3 x < 256 := by unfold t1 t2 t3; decide +kernel
theorem revN_lt (x : Nat) (h : x < 256) : revN x < 256 := (t_lt _ (t_lt _ (t_lt x h).1).2.1).2.2
theorem revN_revN : ∀ x, x < 256 → revN (revN x) = x := by unfold revN t1 t2 t3; decide +kernel
theorem revN_pop : ∀ x, x < 256 → pop8 (revN x) = pop8 x := by unfold revN t1 t2 t3 pop8; decide +kernel
theorem revB_toNat (b : UInt8) : (revB b).toNat = revN b.toNat := by
  rw [revB, UInt8.toNat_ofNat', Nat.mod_eq_of_lt (revN_lt _ (UInt8.toNat_lt _))]
theorem revB_revB (b : UInt8) : revB (revB b) = b := by
  apply UInt8.toNat_inj.1
  rw [revB_toNat, revB_toNat, revN_revN _ (UInt8.toNat_lt _)]
def turnV (l : List UInt8) : List UInt8 := l.map revB
theorem turnV_turnV (l : List UInt8) : turnV (turnV l) = l := by
  unfold turnV
  rw [List.map_map]
  conv => rhs; rw [← List.map_id l]
  exact List.map_congr_left fun b _ => revB_revB b
theorem popV_turnV (l : List UInt8) : popV (turnV l) = popV l := by
  induction l with
  | nil => rfl
  | cons b l ih => show pop8 (revB b).toNat + popV (turnV l) = _; rw [ih, revB_toNat, revN_pop _ (UInt8.toNat_lt _)]; rfl

/-! round about -/
def rotN (a b c : Nat) : Nat := (a * 256 + b) * 2 ^ c / 256 % 256
def rotAt (l : List UInt8) (n i : Nat) : UInt8 :=
  UInt8.ofNat (rotN (l.getD ((8 * i + n) % (8 * l.length) / 8) 0).toNat (l.getD (((8 * i + n) % (8 * l.length) / 8 + 1) % l.length) 0).toNat ((8 * i + n) % (8 * l.length) % 8))
def rotV (l : List UInt8) (n : Nat) : List UInt8 := (List.range l.length).map (rotAt l n)
theorem rotV_length (l : List UInt8) (n : Nat) : (rotV l n).length = l.length := by simp [rotV]
theorem div_eq_testBit (x i : Nat) : x / 2 ^ i % 2 = (x.testBit i).toNat := (Nat.toNat_testBit x i).symm
theorem tb_pair (a b j : Nat) (hb : b < 256) : (a * 256 + b).testBit j = if j < 8 then b.testBit j else a.testBit (j - 8) := by
  have h := Nat.testBit_two_pow_mul_add (i := 8) a (b := b) (by omega) j
  rw [show 2 ^ 8 * a + b = a * 256 + b from by omega] at h
  exact h
theorem rot_bit (a b c r : Nat) (hb : b < 256) (hc : c < 8) (hr : r < 8) :
    rotN a b c / 2 ^ (7 - r) % 2 = if c + r < 8 then a / 2 ^ (7 - (c + r)) % 2 else b / 2 ^ (7 - (c + r - 8)) % 2 := by
  simp only [div_eq_testBit]
  unfold rotN
  rw [show (256 : Nat) = 2 ^ 8 from rfl, Nat.testBit_mod_two_pow, Nat.testBit_div_two_pow, Nat.testBit_mul_two_pow, show a * 2 ^ 8 + b = a * 256 + b from rfl, tb_pair _ _ _ hb]
  have h1 : 7 - r < 8 := by omega
  have h2 : c ≤ 7 - r + 8 := by omega
  simp only [h1, h2, decide_true, Bool.true_and, ge_iff_le]
  by_cases h : c + r < 8
  · rw [if_pos h, if_neg (by omega), show 7 - r + 8 - c - 8 = 7 - (c + r) from by omega]
  · rw [if_neg h, if_pos (by omega), show 7 - r + 8 - c = 7 - (c + r - 8) from by omega]
theorem rotN_lt (a b c : Nat) : rotN a b c < 256 := Nat.mod_lt _ (by decide)
theorem rotV_get (l : List UInt8) (n i : Nat) (h : i < l.length) : ((rotV l n).getD i 0).toNat =
    rotN (l.getD ((8 * i + n) % (8 * l.length) / 8) 0).toNat (l.getD (((8 * i + n) % (8 * l.length) / 8 + 1) % l.length) 0).toNat ((8 * i + n) % (8 * l.length) % 8) := by
  rw [List.getD_eq_getElem?_getD, rotV, List.getElem?_map, List.getElem?_range h]
  simp only [Option.map_some, Option.getD_some]
  rw [rotAt, UInt8.toNat_ofNat', Nat.mod_eq_of_lt (rotN_lt _ _ _)]
theorem mod_step (k r N : Nat) (hk : k < N) (hr : r < 8) (hN : N % 8 = 0) : (k + r) % N = if k % 8 + r < 8 then k + r else (if k + r < N then k + r else k + r - N) := by
  split
  · exact Nat.mod_eq_of_lt (by omega)
  · split
    · exact Nat.mod_eq_of_lt (by omega)
    · rw [Nat.mod_eq_sub_mod (by omega)]; exact Nat.mod_eq_of_lt (by omega)
theorem rotV_bit (l : List UInt8) (n p : Nat) (hp : p < 8 * l.length) : bitAt (rotV l n) 1 p = bitAt l 1 ((p + n) % (8 * l.length)) := by
  have hL : 0 < l.length := by omega
  have hi : p / 8 < l.length := by omega
  obtain ⟨r, hr, hr8⟩ : ∃ r, r = p % 8 ∧ r < 8 := ⟨_, rfl, by omega⟩
  obtain ⟨k, hk, hkN⟩ : ∃ k, k = (8 * (p / 8) + n) % (8 * l.length) ∧ k < 8 * l.length := ⟨_, rfl, Nat.mod_lt _ (by omega)⟩
  have hpn : (p + n) % (8 * l.length) = (k + r) % (8 * l.length) := by
    rw [hk, Nat.mod_add_mod]; congr 1; omega
  have hb : (l.getD ((k / 8 + 1) % l.length) 0).toNat < 256 := UInt8.toNat_lt _
  have e1 : bitAt (rotV l n) 1 p = rotN (l.getD (k / 8) 0).toNat (l.getD ((k / 8 + 1) % l.length) 0).toNat (k % 8) / 2 ^ (7 - r) % 2 := by
    unfold bitAt shiftOf
    rw [if_pos rfl, rotV_get l n _ hi, ← hk, ← hr]
  rw [e1, rot_bit _ _ _ _ hb (by omega) hr8, hpn, mod_step k r _ hkN hr8 (by omega)]
  unfold bitAt shiftOf
  rw [if_pos rfl]
  by_cases h : k % 8 + r < 8
  · rw [if_pos h, if_pos h, show (k + r) / 8 = k / 8 from by omega, show (k + r) % 8 = k % 8 + r from by omega]
  · rw [if_neg h, if_neg h]
    by_cases h2 : k + r < 8 * l.length
    · rw [if_pos h2, show (k + r) / 8 = k / 8 + 1 from by omega, show (k + r) % 8 = k % 8 + r - 8 from by omega, Nat.mod_eq_of_lt (show k / 8 + 1 < l.length from by omega)]
    · rw [if_neg h2, show (k + r - 8 * l.length) / 8 = 0 from by omega, show (k + r - 8 * l.length) % 8 = k % 8 + r - 8 from by omega, show k / 8 + 1 = l.length from by omega, Nat.mod_self]
/-- bytes with the same bits are the same -/
theorem byte_ext (x y : Nat) (hx : x < 256) (hy : y < 256) (h : ∀ r, r < 8 → x / 2 ^ (7 - r) % 2 = y / 2 ^ (7 - r) % 2) : x = y := by
  have h0 := h 0 (by decide); have h1 := h 1 (by decide); have h2 := h 2 (by decide); have h3 := h 3 (by decide)
  have h4 := h 4 (by decide); have h5 := h 5 (by decide); have h6 := h 6 (by decide); have h7 := h 7 (by decide)
  simp only [Nat.reduceSub, Nat.reducePow] at h0 h1 h2 h3 h4 h5 h6 h7
  omega
theorem bits_ext (l m : List UInt8) (hl : l.length = m.length) (h : ∀ p, p < 8 * l.length → bitAt l 1 p = bitAt m 1 p) : l = m := by
  apply List.ext_getElem hl
  intro i h1 h2
  apply UInt8.toNat_inj.1
  apply byte_ext _ _ (UInt8.toNat_lt _) (UInt8.toNat_lt _)
  intro r hr
  have := h (8 * i + r) (by omega)
  unfold bitAt shiftOf at this
  rw [if_pos rfl, show (8 * i + r) / 8 = i from by omega, show (8 * i + r) % 8 = r from by omega, List.getD_eq_getElem?_getD, List.getD_eq_getElem?_getD, List.getElem?_eq_getElem h1, List.getElem?_eq_getElem h2] at this
  exact this
theorem rotV_rotV (l : List UInt8) (n m k : Nat) (hk : k % (8 * l.length) = (n + m) % (8 * l.length)) : rotV (rotV l n) m = rotV l k := by
  apply bits_ext
  · simp [rotV_length]
  · intro p hp
    rw [rotV_length, rotV_length] at hp
    rw [rotV_bit _ _ _ (by rw [rotV_length]; exact hp), rotV_length, rotV_bit _ _ _ (Nat.mod_lt _ (by omega)), rotV_bit _ _ _ hp]
    congr 1
    rw [Nat.mod_add_mod, Nat.add_mod p k, hk, ← Nat.add_mod, ← Nat.add_assoc]
    congr 1
    omega
theorem rotV_zero (l : List UInt8) : rotV l 0 = l := by
  apply bits_ext
  · rw [rotV_length]
  · intro p hp
    rw [rotV_length] at hp
    rw [rotV_bit _ _ _ hp, Nat.add_zero, Nat.mod_eq_of_lt hp]

/-! as many are 1 -/
def sumTo (f : Nat → Nat) : Nat → Nat
  | 0 => 0
  | n + 1 => sumTo f n + f n
theorem sumTo_congr {f g : Nat → Nat} : ∀ n, (∀ i, i < n → f i = g i) → sumTo f n = sumTo g n
  | 0, _ => rfl
  | n + 1, h => by rw [sumTo, sumTo, sumTo_congr n (fun i hi => h i (by omega)), h n (by omega)]
theorem sumTo_shift (f : Nat → Nat) : ∀ n, sumTo (fun i => f (i + 1)) n + f 0 = sumTo f n + f n
  | 0 => by simp [sumTo]
  | n + 1 => by have := sumTo_shift f n; simp only [sumTo]; omega
theorem sumTo_rot1 (f : Nat → Nat) (N : Nat) (hN : 0 < N) : sumTo (fun p => f ((p + 1) % N)) N = sumTo f N := by
  obtain ⟨M, rfl⟩ : ∃ M, N = M + 1 := ⟨N - 1, by omega⟩
  rw [sumTo, Nat.mod_self, sumTo_congr (g := fun p => f (p + 1)) M (fun i hi => by rw [Nat.mod_eq_of_lt (by omega)]), sumTo_shift, sumTo]
theorem sumTo_rot (f : Nat → Nat) (N : Nat) (hN : 0 < N) : ∀ n, sumTo (fun p => f ((p + n) % N)) N = sumTo f N
  | 0 => sumTo_congr N fun i hi => by rw [Nat.add_zero, Nat.mod_eq_of_lt hi]
  | n + 1 => by
    rw [← sumTo_rot f N hN n, ← sumTo_rot1 (fun p => f ((p + n) % N)) N hN]
    apply sumTo_congr
    intro i hi
    rw [Nat.mod_add_mod]
    congr 2
    omega
theorem popV_sum (l : List UInt8) : popV l = sumTo (bitAt l 1) (8 * l.length) := by
  have key : ∀ k, k ≤ l.length → popV (l.take k) = sumTo (bitAt l 1) (8 * k) := by
    intro k
    induction k with
    | zero => intro _; simp [popV, sumTo]
    | succ k ih =>
      intro hk
      rw [popV_snoc l k (by omega), ih (by omega), show 8 * (k + 1) = 8 * k + 7 + 1 from by omega]
      have hb : ∀ r, r < 8 → bitAt l 1 (8 * k + r) = (l.getD k 0).toNat / 2 ^ (7 - r) % 2 := by
        intro r hr
        unfold bitAt shiftOf
        rw [if_pos rfl, show (8 * k + r) / 8 = k from by omega, show (8 * k + r) % 8 = r from by omega]
      have h0 := hb 0 (by decide)
      rw [Nat.add_zero] at h0
      simp only [sumTo]
      rw [h0, hb 1 (by decide), hb 2 (by decide), hb 3 (by decide), hb 4 (by decide), hb 5 (by decide), hb 6 (by decide), hb 7 (by decide)]
      unfold pop8
      simp only [Nat.reduceSub, Nat.reducePow, Nat.div_one]
      omega
  have := key l.length (Nat.le_refl _)
  rwa [List.take_length] at this
theorem popV_rotV (l : List UInt8) (n : Nat) : popV (rotV l n) = popV l := by
  rw [popV_sum, popV_sum, rotV_length]
  rcases Nat.eq_zero_or_pos l.length with h | h
  · rw [h]; rfl
  · rw [← sumTo_rot (bitAt l 1) (8 * l.length) (by omega) n]
    exact sumTo_congr _ fun p hp => rotV_bit l n p hp

/-! the walk's own forms -/
theorem pop_and (x : Nat) (hx : x < 256) (h0 : 0 < x) : bits .and .u8 (x : Int) ((x : Int) - 1) = ((x &&& (x - 1) : Nat) : Int) := by
  rw [show (x : Int) - 1 = ((x - 1 : Nat) : Int) from by omega]
  exact u8_and_nat _ _ hx (by omega)
theorem t1_form (x : Nat) (hx : x < 256) : bits .or .u8 ((x : Int) / 16) ((x : Int) * 16 % 256) = ((t1 x : Nat) : Int) := by
  have := u8_or_nat (x / 16) (x * 16 % 256) (by omega) (by omega)
  exact this
theorem and_form (x d m : Nat) (hx : x < 256) (hm : m < 256) : bits .and .u8 ((x : Int) / (d : Int)) (m : Int) = ((x / d &&& m : Nat) : Int) :=
  u8_and_nat (x / d) m (Nat.lt_of_le_of_lt (Nat.div_le_self _ _) hx) hm
theorem and_small : ∀ x, x < 256 → (x &&& 51) * 4 < 256 ∧ (x &&& 85) * 2 < 256 := by decide +kernel
theorem t2_form (x : Nat) (hx : x < 256) : bits .and .u8 ((x : Int) / 4) 51 = ((x / 4 &&& 51 : Nat) : Int) ∧ bits .and .u8 (x : Int) 51 = ((x &&& 51 : Nat) : Int) ∧
    IntKind.u8.wrap (((x &&& 51 : Nat) : Int) * 4) = (((x &&& 51) * 4 : Nat) : Int) ∧ bits .or .u8 ((x / 4 &&& 51 : Nat) : Int) (((x &&& 51) * 4 : Nat) : Int) = ((t2 x : Nat) : Int) := by
  have h1 := (and_small x hx).1
  refine ⟨and_form x 4 51 hx (by decide), u8_and_nat x 51 hx (by decide), ?_, ?_⟩
  · rw [show (((x &&& 51 : Nat) : Int) * 4) = (((x &&& 51) * 4 : Nat) : Int) from rfl]; exact IntWalk.u8_in _ ⟨by omega, by omega⟩
  · exact u8_or_nat _ _ (Nat.lt_of_le_of_lt Nat.and_le_left (by omega)) h1
theorem t3_form (x : Nat) (hx : x < 256) : bits .and .u8 ((x : Int) / 2) 85 = ((x / 2 &&& 85 : Nat) : Int) ∧ bits .and .u8 (x : Int) 85 = ((x &&& 85 : Nat) : Int) ∧
    IntKind.u8.wrap (((x &&& 85 : Nat) : Int) * 2) = (((x &&& 85) * 2 : Nat) : Int) ∧ bits .or .u8 ((x / 2 &&& 85 : Nat) : Int) (((x &&& 85) * 2 : Nat) : Int) = ((t3 x : Nat) : Int) := by
  have h1 := (and_small x hx).2
  refine ⟨and_form x 2 85 hx (by decide), u8_and_nat x 85 hx (by decide), ?_, ?_⟩
  · rw [show (((x &&& 85 : Nat) : Int) * 2) = (((x &&& 85) * 2 : Nat) : Int) from rfl]; exact IntWalk.u8_in _ ⟨by omega, by omega⟩
  · exact u8_or_nat _ _ (Nat.lt_of_le_of_lt Nat.and_le_left (by omega)) h1
theorem rot_form (a b c z : Nat) (ha : a < 256) (hb : b < 256) (hc : c < 8) (hz : a * 256 + b = z) :
    IntKind.u64.wrap ((z : Int) * 2 ^ c) / 256 % 256 = ((rotN a b c : Nat) : Int) := by
  have h1 : 2 ^ c ≤ 2 ^ 7 := pow2_le (by omega)
  have h2 : z * 2 ^ c ≤ z * 2 ^ 7 := Nat.mul_le_mul_left _ h1
  have e : ((z : Int) * 2 ^ c) = ((z * 2 ^ c : Nat) : Int) := by simp
  rw [e, IntWalk.u64_in _ ⟨by omega, by omega⟩, rotN, hz]
  simp
theorem rot_cell (l : List UInt8) (q k K kd ke a b z : Nat) (hK : K = (8 * k + q) % (8 * l.length)) (hkd : K / 8 = kd) (hke : ke = (kd + 1) % l.length) (ha : a = (l.getD kd 0).toNat) (hb : b = (l.getD ke 0).toNat) (hz : a * 256 + b = z) :
    (.int .u8 (IntKind.u64.wrap ((z : Int) * 2 ^ (K % 8)) / 256 % 256) : Value) = bval (rotAt l q k) := by
  have h1 : a < 256 := by rw [ha]; exact UInt8.toNat_lt _
  have h2 : b < 256 := by rw [hb]; exact UInt8.toNat_lt _
  rw [rot_form a b (K % 8) z h1 h2 (Nat.mod_lt _ (by decide)) hz, bval, rotAt, UInt8.toNat_ofNat', Nat.mod_eq_of_lt (rotN_lt _ _ _), ← hK, hkd, ← hke, ← ha, ← hb]
theorem mask_form (v n : Nat) (hv : v < 18446744073709551616) (hn : n < 64) :
    bits .and .u64 (v : Int) (IntKind.u64.wrap (IntKind.u64.wrap (2 ^ n) - 1)) = ((v % 2 ^ n : Nat) : Int) := by
  have h1 : 2 ^ n ≤ 2 ^ 63 := pow2_le (by omega)
  have h2 : 0 < 2 ^ n := Nat.pow_pos (by decide)
  have e : ((2 : Int) ^ n) = ((2 ^ n : Nat) : Int) := by simp
  have e2 : IntKind.u64.wrap ((2 ^ n : Nat) : Int) = ((2 ^ n : Nat) : Int) := IntWalk.u64_in _ ⟨by omega, by omega⟩
  have e3 : (((2 ^ n : Nat) : Int) - 1) = ((2 ^ n - 1 : Nat) : Int) := by omega
  have e4 : IntKind.u64.wrap ((2 ^ n - 1 : Nat) : Int) = ((2 ^ n - 1 : Nat) : Int) := IntWalk.u64_in _ ⟨by omega, by omega⟩
  rw [e, e2, e3, e4, bits_and_u64_nat _ _ hv (by omega), Nat.and_two_pow_sub_one_eq_mod]
end Go.Proofs.Ytlpockgofejogaa
