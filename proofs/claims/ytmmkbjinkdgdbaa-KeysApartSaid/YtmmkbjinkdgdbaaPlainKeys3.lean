/- Parse at two numbers, plain. -/
import Derived.Test.YtmmkbjinkdgdbaaPlainKeys2
namespace Go.Proofs.Ytmmkbjinkdgdbaa
namespace Keys
/-- a number below 100 as digits -/
def dec (n : Nat) : List UInt8 := if n < 10 then [UInt8.ofNat (48 + n)] else [UInt8.ofNat (48 + n / 10), UInt8.ofNat (48 + n % 10)]
theorem cnt_stop (n : Nat) (c : UInt8) (r : List UInt8) (hc : c.toNat < 48 ∨ 57 < c.toNat) : cnt (c :: r) n = (n, c :: r) := by
  rw [cnt_cons, if_neg (by omega)]
theorem toNat_digit (k : Nat) (h : k < 10) : (UInt8.ofNat (48 + k)).toNat = 48 + k := by
  rw [UInt8.toNat_ofNat']; omega
theorem cnt_dec (n : Nat) (h1 : 1 ≤ n) (h2 : n < 100) (c : UInt8) (r : List UInt8) (hc : c.toNat < 48 ∨ 57 < c.toNat) : cnt (dec n ++ c :: r) 0 = (n, c :: r) := by
  unfold dec
  split
  · rename_i h
    show cnt (UInt8.ofNat (48 + n) :: c :: r) 0 = _
    rw [cnt_cons, toNat_digit n h, if_pos (by omega), cnt_stop _ c r hc]
    congr 1; omega
  · rename_i h
    show cnt (UInt8.ofNat (48 + n / 10) :: UInt8.ofNat (48 + n % 10) :: c :: r) 0 = _
    rw [cnt_cons, toNat_digit (n / 10) (by omega), if_pos (by omega), cnt_cons, toNat_digit (n % 10) (by omega), if_pos (by omega), cnt_stop _ c r hc]
    congr 1; omega
theorem dec_head (n : Nat) (h1 : 1 ≤ n) (h2 : n < 100) (r : List UInt8) : (dec n ++ r).head? ≠ some 34 := by
  unfold dec
  split
  · rename_i h
    intro e
    have e2 : UInt8.ofNat (48 + n) = 34 := by simpa using e
    have e3 := congrArg UInt8.toNat e2
    rw [toNat_digit n h] at e3
    have : (34 : UInt8).toNat = 34 := rfl
    omega
  · rename_i h
    intro e
    have e2 : UInt8.ofNat (48 + n / 10) = 34 := by simpa using e
    have e3 := congrArg UInt8.toNat e2
    rw [toNat_digit (n / 10) (by omega)] at e3
    have : (34 : UInt8).toNat = 34 := rfl
    omega
theorem parse_plain (l : List UInt8) (h : l.head? ≠ some 34) : parse l = numbered 0 l := by
  rw [parse_eq, if_neg h]
def isOp (o : UInt8) : Prop := o = 100 ∨ o = 121 ∨ o = 99
def isMove (v : UInt8) : Prop := v = 104 ∨ v = 108 ∨ v = 106 ∨ v = 107 ∨ v = 119 ∨ v = 98 ∨ v = 110 ∨ v = 78
theorem argued_nil (c : Cm) (v : UInt8) (hv : isMove v) : argued c v [] = ({ c with arg := [] }, [], 1) := by
  rcases hv with rfl | rfl | rfl | rfl | rfl | rfl | rfl | rfl <;> rfl
theorem goes_move (v : UInt8) (hv : isMove v) : goes v = true := by
  rcases hv with rfl | rfl | rfl | rfl | rfl | rfl | rfl | rfl <;> rfl
theorem move_not_op (v : UInt8) (hv : isMove v) : [100, 121, 99].contains v = false := by
  rcases hv with rfl | rfl | rfl | rfl | rfl | rfl | rfl | rfl <;> rfl
theorem move_nodigit (v : UInt8) (hv : isMove v) : v.toNat < 48 ∨ 57 < v.toNat := by
  rcases hv with rfl | rfl | rfl | rfl | rfl | rfl | rfl | rfl <;> decide
theorem move_pos (v : UInt8) (hv : isMove v) : v.toNat ≠ 0 := by
  rcases hv with rfl | rfl | rfl | rfl | rfl | rfl | rfl | rfl <;> decide
theorem op_is (o : UInt8) (ho : isOp o) : [100, 121, 99].contains o = true := by
  rcases ho with rfl | rfl | rfl <;> rfl
theorem op_nodigit (o : UInt8) (ho : isOp o) : o.toNat < 48 ∨ 57 < o.toNat := by
  rcases ho with rfl | rfl | rfl <;> decide
theorem move_ne (o v : UInt8) (ho : isOp o) (hv : isMove v) : v ≠ o := by
  rcases ho with rfl | rfl | rfl <;> rcases hv with rfl | rfl | rfl | rfl | rfl | rfl | rfl | rfl <;> decide
theorem parse_two (n m : Nat) (o v : UInt8) (h1 : 1 ≤ n) (h2 : n ≤ 90) (g1 : 1 ≤ m) (g2 : m ≤ 90) (ho : isOp o) (hv : isMove v) :
    parse (dec n ++ o :: (dec m ++ [v])) = (⟨0, n * m, o.toNat, v.toNat, []⟩, [], 1) := by
  have hnm : n * m ≤ 90 * 90 := Nat.mul_le_mul h2 g2
  rw [parse_plain _ (dec_head n h1 (by omega) _)]
  unfold numbered
  rw [cnt_dec n h1 (by omega) o _ (op_nodigit o ho)]
  unfold opped
  simp only
  rw [if_pos (op_is o ho), cnt_dec m g1 (by omega) v _ (move_nodigit v hv)]
  unfold moved
  simp only
  rw [if_neg (move_ne o v ho hv), if_pos (goes_move v hv), argued_nil _ v hv, if_pos (by omega)]
  have e1 : min (max n 1 * m) 9999 = n * m := by
    rw [Nat.max_eq_left h1, Nat.min_eq_left (by omega)]
  rw [e1]
theorem parse_one (n : Nat) (v : UInt8) (h1 : 1 ≤ n) (h2 : n ≤ 90) (hv : isMove v) : parse (dec n ++ [v]) = (⟨0, n, v.toNat, 0, []⟩, [], 1) := by
  rw [parse_plain _ (dec_head n h1 (by omega) _)]
  unfold numbered
  rw [cnt_dec n h1 (by omega) v _ (move_nodigit v hv)]
  unfold opped
  simp only
  rw [move_not_op v hv, if_neg (by simp), if_pos (by unfold known; rw [goes_move v hv]; rfl), argued_nil _ v hv]
end Keys
end Go.Proofs.Ytmmkbjinkdgdbaa
