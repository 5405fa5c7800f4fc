/- Plain Lean: any sum may be had. No program in sight. -/
import Derived.Test.YtdjddiajnalffaaPlainSums3
namespace Go.Proofs.Ytdjddiajnalffaa
open Go.RowKit
set_option linter.unusedVariables false
set_option linter.unusedSimpArgs false
def backK (w p r : Nat) : Nat → Nat
  | 0 => r
  | k + 1 => backB w p (backK w p r k)
theorem backK_lt (w p r : Nat) (hw : 0 < w) (hp : p % 2 = 1) (hpw : p < 2 ^ w) (hr : r < 2 ^ w) : ∀ k, backK w p r k < 2 ^ w
  | 0 => hr
  | k + 1 => (step_back w p _ hw hp hpw (backK_lt w p r hw hp hpw hr k)).2
theorem stepK_succ (w p r k : Nat) : stepK w p r (k + 1) = stepK w p (stepB w p r) k := by
  rw [Nat.add_comm, ← stepK_add]; rfl
theorem step_backK (w p r : Nat) (hw : 0 < w) (hp : p % 2 = 1) (hpw : p < 2 ^ w) (hr : r < 2 ^ w) : ∀ k, stepK w p (backK w p r k) k = r
  | 0 => rfl
  | k + 1 => by
    rw [stepK_succ, backK, (step_back w p _ hw hp hpw (backK_lt w p r hw hp hpw hr k)).1]
    exact step_backK w p r hw hp hpw hr k
theorem backK_add (w p r a b : Nat) : backK w p (backK w p r a) b = backK w p r (a + b) := by
  induction b with
  | zero => rfl
  | succ b ih => rw [← Nat.add_assoc, backK, backK, ih]
def backN (m : SumP) (r c : Nat) : Nat := backK m.w m.p r 8 ^^^ cOf m c * 2 ^ (m.w - 8)
theorem SumP.Ok.pos {m : SumP} (h : m.Ok) : 0 < m.w := by have := h.w; omega
theorem backN_lt (m : SumP) (h : m.Ok) (r c : Nat) (hr : r < 2 ^ m.w) (hc : c < 256) : backN m r c < 2 ^ m.w :=
  Nat.xor_lt_two_pow (backK_lt _ _ _ h.pos h.odd h.p hr 8) (cOf_shift_lt m h c hc)
theorem step_backN (m : SumP) (h : m.Ok) (r c : Nat) (hr : r < 2 ^ m.w) : stepN m (backN m r c) c = r := by
  rw [stepN, backN, xor_back]
  exact step_backK _ _ _ h.pos h.odd h.p hr 8
def foldBack (m : SumP) (r : Nat) : List UInt8 → Nat
  | [] => r
  | c :: l => backN m (foldBack m r l) c.toNat
theorem foldBack_lt (m : SumP) (h : m.Ok) (r : Nat) (hr : r < 2 ^ m.w) : ∀ l, foldBack m r l < 2 ^ m.w
  | [] => hr
  | c :: l => backN_lt m h _ _ (foldBack_lt m h r hr l) (UInt8.toNat_lt c)
theorem fold_foldBack (m : SumP) (h : m.Ok) (r : Nat) (hr : r < 2 ^ m.w) : ∀ l, foldN m (foldBack m r l) l = r
  | [] => rfl
  | c :: l => by
    show foldN m (stepN m (backN m (foldBack m r l) c.toNat) c.toNat) l = r
    rw [step_backN m h _ _ (foldBack_lt m h r hr l)]
    exact fold_foldBack m h r hr l
theorem foldBack_drop (m : SumP) (r : Nat) (l : List UInt8) (i : Nat) (h : i < l.length) : foldBack m r (l.drop i) = backN m (foldBack m r (l.drop (i + 1))) (l.getD i 0).toNat := by
  rw [List.drop_eq_getElem_cons h, List.getD_eq_getElem?_getD, List.getElem?_eq_getElem h]; rfl
theorem turnTo_bit (n : Nat) : ∀ k i, i < k → (turnTo n k).testBit i = n.testBit (k - 1 - i)
  | 0, i, h => by omega
  | k + 1, i, h => by
    have hb : n / 2 ^ k % 2 = (n.testBit k).toNat := (Nat.toNat_testBit n k).symm
    have e : turnTo n (k + 1) = 2 * turnTo n k + (n.testBit k).toNat := by rw [turnTo, hb]; omega
    rw [e]
    cases i with
    | zero =>
      rw [Nat.testBit_zero]
      cases h2 : n.testBit k
      · simp [h2]
      · simp [h2]
    | succ i =>
      have ih := turnTo_bit n k i (by omega)
      rw [Nat.testBit_succ]
      have : (2 * turnTo n k + (n.testBit k).toNat) / 2 = turnTo n k := by
        cases n.testBit k <;> simp <;> omega
      rw [this, ih]
      congr 1
      omega
theorem turnTo_turnTo (n k : Nat) (h : n < 2 ^ k) : turnTo (turnTo n k) k = n := by
  apply Nat.eq_of_testBit_eq
  intro i
  by_cases hi : i < k
  · rw [turnTo_bit _ k i hi, turnTo_bit _ k _ (by omega)]
    congr 1
    omega
  · have hp : 2 ^ k ≤ 2 ^ i := Nat.pow_le_pow_right (by decide) (by omega)
    rw [Nat.testBit_lt_two_pow (Nat.lt_of_lt_of_le (turnTo_lt _ _) hp), Nat.testBit_lt_two_pow (Nat.lt_of_lt_of_le h hp)]
def inN (m : SumP) (n : Nat) : Nat := if m.t then turnTo (n ^^^ m.o) m.w else n ^^^ m.o
theorem inN_lt (m : SumP) (h : m.Ok) (n : Nat) (hn : n < 2 ^ m.w) : inN m n < 2 ^ m.w := by
  unfold inN; split
  · exact turnTo_lt _ _
  · exact Nat.xor_lt_two_pow hn h.o
theorem out_in (m : SumP) (h : m.Ok) (n : Nat) (hn : n < 2 ^ m.w) : outN m (inN m n) = n := by
  unfold outN inN
  cases m.t
  · simp only [Bool.false_eq_true, if_false]; exact xor_back _ _
  · simp only [if_true]
    rw [turnTo_turnTo _ _ (Nat.xor_lt_two_pow hn h.o), xor_back]
theorem cOf_cOf (m : SumP) (c : Nat) (hc : c < 256) : cOf m (cOf m c) = c := by
  unfold cOf
  cases m.t
  · simp
  · simp only [if_true]; exact turnTo_turnTo c 8 hc
theorem foldN_inj (m : SumP) (h : m.Ok) (l : List UInt8) (a b : Nat) (ha : a < 2 ^ m.w) (hb : b < 2 ^ m.w) (e : foldN m a l = foldN m b l) : a = b := by
  have h1 := foldN_reg m l b (b ^^^ a)
  rw [← Nat.xor_assoc, Nat.xor_self, Nat.zero_xor, e] at h1
  have h2 : stepK m.w m.p (b ^^^ a) (8 * l.length) = 0 := by
    have := congrArg (fun x => foldN m b l ^^^ x) h1
    simp only [← Nat.xor_assoc, Nat.xor_self, Nat.zero_xor] at this
    exact this.symm
  have h3 := stepK_inj m.w m.p h.pos h.odd h.p (8 * l.length) (b ^^^ a) 0 (Nat.xor_lt_two_pow hb ha) (Nat.pow_pos (by decide)) (by rw [h2, stepK_zero])
  exact (xor_eq_zero _ _ h3).symm
/-- the bytes of a register -/
def forceB (m : SumP) (d k : Nat) : Nat := cOf m (d / 2 ^ (m.w - 8 - 8 * k) % 256)
def forceL (m : SumP) (d : Nat) : List UInt8 := (List.range (m.w / 8)).map (fun k => UInt8.ofNat (forceB m d k))
theorem forceL_length (m : SumP) (d : Nat) : (forceL m d).length = m.w / 8 := by simp [forceL]
theorem forceB_lt (m : SumP) (d k : Nat) : forceB m d k < 256 := cOf_lt m _ (Nat.mod_lt _ (by decide))
theorem ofNat_byte (n : Nat) (h : n < 256) : (UInt8.ofNat n).toNat = n := by
  rw [UInt8.toNat_ofNat']; exact Nat.mod_eq_of_lt h
theorem forceL_get (m : SumP) (d k : Nat) (h : k < m.w / 8) : (forceL m d).getD k 0 = UInt8.ofNat (forceB m d k) := by
  rw [List.getD_eq_getElem?_getD, List.getElem?_eq_getElem (by rw [forceL_length]; exact h)]
  simp [forceL]
/-- a register's own topmost byte -/
theorem stepN_top (m : SumP) (h : m.Ok) (r c : Nat) (hr : r < 2 ^ m.w) (hc : cOf m c = r / 2 ^ (m.w - 8)) : stepN m r c = r % 2 ^ (m.w - 8) * 256 := by
  have hw8 : 8 ≤ m.w := by have := h.w; omega
  have hz : r % 2 ^ (m.w - 8) < 2 ^ (m.w - 8) := Nat.mod_lt _ (Nat.pow_pos (by decide))
  have e : 2 ^ m.w = 2 ^ (m.w - 8) * 2 ^ 8 := by rw [← Nat.pow_add]; congr 1; omega
  rw [stepN, hc]
  have hx : r ^^^ r / 2 ^ (m.w - 8) * 2 ^ (m.w - 8) = r % 2 ^ (m.w - 8) := by
    have h0 := Nat.div_add_mod r (2 ^ (m.w - 8))
    have h1 : r = r / 2 ^ (m.w - 8) * 2 ^ (m.w - 8) ^^^ r % 2 ^ (m.w - 8) := by
      apply Nat.eq_of_testBit_eq
      intro i
      rw [Nat.testBit_xor, Nat.testBit_mul_two_pow, Nat.testBit_mod_two_pow, Nat.testBit_div_two_pow]
      by_cases hi : i < m.w - 8
      · have h2 : ¬ i ≥ m.w - 8 := by omega
        simp [hi, h2]
      · have h2 : i ≥ m.w - 8 := by omega
        simp only [hi, h2, decide_true, decide_false, Bool.true_and, Bool.false_and, Bool.xor_false]
        congr 1; omega
    conv => lhs; arg 1; rw [h1]
    rw [Nat.xor_comm, ← Nat.xor_assoc, Nat.xor_self, Nat.zero_xor]
  rw [hx, stepK_small _ _ _ h.pos 8]
  rw [e]
  exact Nat.mul_lt_mul_of_pos_right hz (by decide)
theorem force_zero (m : SumP) (h : m.Ok) (d : Nat) (hd : d < 2 ^ m.w) : foldN m d (forceL m d) = 0 := by
  have top : ∀ r q : Nat, r < 2 ^ m.w → q < 256 → q = r / 2 ^ (m.w - 8) → stepN m r (UInt8.ofNat (cOf m q)).toNat = r % 2 ^ (m.w - 8) * 256 := by
    intro r q hr hq e
    rw [ofNat_byte _ (cOf_lt m q hq), stepN_top m h r _ hr (by rw [cOf_cOf m q hq]; exact e)]
  unfold forceL forceB
  rcases h.w with e | e | e
  · rw [e] at top hd ⊢
    simp only [Nat.reduceSub, Nat.reducePow] at top hd
    show stepN m d (UInt8.ofNat (cOf m (d / 1 % 256))).toNat = 0
    rw [top d (d / 1 % 256) hd (by omega) (by omega)]
    omega
  · rw [e] at top hd ⊢
    simp only [Nat.reduceSub, Nat.reducePow] at top hd
    show stepN m (stepN m d (UInt8.ofNat (cOf m (d / 256 % 256))).toNat) (UInt8.ofNat (cOf m (d / 1 % 256))).toNat = 0
    rw [top d (d / 256 % 256) hd (by omega) (by omega), top (d % 256 * 256) (d / 1 % 256) (by omega) (by omega) (by omega)]
    omega
  · rw [e] at top hd ⊢
    simp only [Nat.reduceSub, Nat.reducePow] at top hd
    show stepN m (stepN m (stepN m (stepN m d (UInt8.ofNat (cOf m (d / 16777216 % 256))).toNat) (UInt8.ofNat (cOf m (d / 65536 % 256))).toNat) (UInt8.ofNat (cOf m (d / 256 % 256))).toNat) (UInt8.ofNat (cOf m (d / 1 % 256))).toNat = 0
    rw [top d (d / 16777216 % 256) hd (by omega) (by omega), top (d % 16777216 * 256) (d / 65536 % 256) (by omega) (by omega) (by omega),
      top (d % 16777216 * 256 % 16777216 * 256) (d / 256 % 256) (by omega) (by omega) (by omega), top (d % 16777216 * 256 % 16777216 * 256 % 16777216 * 256) (d / 1 % 256) (by omega) (by omega) (by omega)]
    omega
/-- a register of bytes -/
theorem pack (m : SumP) (h : m.Ok) (o : List UInt8) (ho : o.length = m.w / 8) : ∃ D, D < 2 ^ m.w ∧ forceL m D = o := by
  have hcc := fun (c : UInt8) => cOf_cOf m c.toNat (UInt8.toNat_lt c)
  have hcl := fun (c : UInt8) => cOf_lt m c.toNat (UInt8.toNat_lt c)
  have hb : ∀ (c : UInt8) (n : Nat), n = cOf m c.toNat → UInt8.ofNat (cOf m n) = c := by
    rintro c n rfl
    rw [hcc]; simp
  unfold forceL forceB
  rcases h.w with e | e | e
  · rw [e] at ho ⊢
    match o, ho with
    | [a], _ =>
      have := hcl a
      refine ⟨cOf m a.toNat, by omega, ?_⟩
      exact List.cons_eq_cons.2 ⟨hb a _ (by simp only [Nat.reduceSub, Nat.reduceMul, Nat.reducePow]; omega), rfl⟩
  · rw [e] at ho ⊢
    match o, ho with
    | [a, b], _ =>
      have h1 := hcl a
      have h2 := hcl b
      refine ⟨cOf m a.toNat * 256 + cOf m b.toNat, by omega, ?_⟩
      exact List.cons_eq_cons.2 ⟨hb a _ (by simp only [Nat.reduceSub, Nat.reduceMul, Nat.reducePow]; omega), List.cons_eq_cons.2 ⟨hb b _ (by simp only [Nat.reduceSub, Nat.reduceMul, Nat.reducePow]; omega), rfl⟩⟩
  · rw [e] at ho ⊢
    match o, ho with
    | [a, b, c, d], _ =>
      have h1 := hcl a
      have h2 := hcl b
      have h3 := hcl c
      have h4 := hcl d
      refine ⟨cOf m a.toNat * 16777216 + cOf m b.toNat * 65536 + cOf m c.toNat * 256 + cOf m d.toNat, by omega, ?_⟩
      exact List.cons_eq_cons.2 ⟨hb a _ (by simp only [Nat.reduceSub, Nat.reduceMul, Nat.reducePow]; omega), List.cons_eq_cons.2 ⟨hb b _ (by simp only [Nat.reduceSub, Nat.reduceMul, Nat.reducePow]; omega), List.cons_eq_cons.2 ⟨hb c _ (by simp only [Nat.reduceSub, Nat.reduceMul, Nat.reducePow]; omega), List.cons_eq_cons.2 ⟨hb d _ (by simp only [Nat.reduceSub, Nat.reduceMul, Nat.reducePow]; omega), rfl⟩⟩⟩⟩
theorem fold_force (m : SumP) (h : m.Ok) (o : List UInt8) (D r : Nat) (hD : D < 2 ^ m.w) (hL : forceL m D = o) : foldN m r o = stepK m.w m.p (D ^^^ r) (8 * (m.w / 8)) := by
  have h1 := foldN_reg m o D (D ^^^ r)
  rw [← Nat.xor_assoc, Nat.xor_self, Nat.zero_xor, ← hL, force_zero m h D hD, Nat.zero_xor, forceL_length] at h1
  rw [← hL]; exact h1
/-- what Force answers -/
def forced (m : SumP) (l : List UInt8) (at_ want : Nat) : List UInt8 :=
  forceL m (foldN m m.i (l.take at_) ^^^ backK m.w m.p (foldBack m (inN m want) (l.drop at_)) (8 * (m.w / 8)))
theorem forced_length (m : SumP) (l : List UInt8) (a n : Nat) : (forced m l a n).length = m.w / 8 := forceL_length _ _
theorem forced_iff (m : SumP) (h : m.Ok) (l o : List UInt8) (a want : Nat) (hw : want < 2 ^ m.w) (ho : o.length = m.w / 8) :
    ofN m (l.take a ++ o ++ l.drop a) = want ↔ o = forced m l a want := by
  have hr := foldN_lt m h (l.take a) m.i h.i
  have hT := foldBack_lt m h _ (inN_lt m h want hw) (l.drop a)
  have hX := backK_lt m.w m.p _ h.pos h.odd h.p hT (8 * (m.w / 8))
  have hXs := step_backK m.w m.p _ h.pos h.odd h.p hT (8 * (m.w / 8))
  have hin := fold_foldBack m h _ (inN_lt m h want hw) (l.drop a)
  unfold forced
  rw [ofN, foldN_append, foldN_append]
  generalize foldN m m.i (l.take a) = r at *
  generalize foldBack m (inN m want) (l.drop a) = T at *
  generalize backK m.w m.p T (8 * (m.w / 8)) = X at *
  have hro : foldN m r o < 2 ^ m.w := foldN_lt m h o r hr
  have e1 : outN m (foldN m (foldN m r o) (l.drop a)) = want ↔ foldN m r o = T := by
    constructor
    · intro e
      have e2 := outN_inj m _ _ (foldN_lt m h _ _ hro) (inN_lt m h want hw) (e.trans (out_in m h want hw).symm)
      exact foldN_inj m h _ _ _ hro hT (e2.trans hin.symm)
    · intro e
      rw [e, hin, out_in m h want hw]
  rw [e1]
  obtain ⟨D, hD, hL⟩ := pack m h o ho
  rw [fold_force m h o D r hD hL]
  constructor
  · intro e
    have e2 := stepK_inj m.w m.p h.pos h.odd h.p _ _ _ (Nat.xor_lt_two_pow hD hr) hX (e.trans hXs.symm)
    rw [← e2, ← hL, Nat.xor_comm D r, ← Nat.xor_assoc, Nat.xor_self, Nat.zero_xor]
  · intro e
    have hd : r ^^^ X < 2 ^ m.w := Nat.xor_lt_two_pow hr hX
    have e3 := fold_force m h o (r ^^^ X) r hd e.symm
    rw [fold_force m h o D r hD hL] at e3
    rw [e3, Nat.xor_comm r X, xor_back, hXs]
end Go.Proofs.Ytdjddiajnalffaa
