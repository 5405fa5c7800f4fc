/- Plain Lean: Adler's sum and Fletcher's. No program in sight. -/
import Derived.Test.YtdjddiajnalffaaPlainSums
namespace Go.Proofs.Ytdjddiajnalffaa
open Go.RowKit
set_option linter.unusedVariables false
set_option linter.unusedSimpArgs false
/-- the two registers -/
def adA (M a : Nat) (l : List UInt8) : Nat := l.foldl (fun a c => (a + c.toNat) % M) a
def adB (M a b : Nat) : List UInt8 → Nat
  | [] => b
  | c :: l => adB M ((a + c.toNat) % M) ((b + (a + c.toNat) % M) % M) l
theorem adA_append (M a : Nat) (x y : List UInt8) : adA M a (x ++ y) = adA M (adA M a x) y := List.foldl_append
theorem adB_append (M : Nat) (x y : List UInt8) : ∀ a b, adB M a b (x ++ y) = adB M (adA M a x) (adB M a b x) y := by
  induction x with
  | nil => intro a b; rfl
  | cons c x ih => intro a b; exact ih _ _
theorem adA_lt (M a : Nat) (l : List UInt8) (ha : a < M) : adA M a l < M := by
  induction l generalizing a with
  | nil => exact ha
  | cons c l ih => exact ih _ (Nat.mod_lt _ (by omega))
theorem adB_lt (M : Nat) (l : List UInt8) : ∀ a b, b < M → adB M a b l < M := by
  induction l with
  | nil => intro a b hb; exact hb
  | cons c l ih => intro a b hb; exact ih _ _ (Nat.mod_lt _ (by omega))
theorem ad_snoc (M a b : Nat) (l : List UInt8) (k : Nat) (h : k < l.length) :
    adA M a (l.take (k + 1)) = (adA M a (l.take k) + (l.getD k 0).toNat) % M ∧
    adB M a b (l.take (k + 1)) = (adB M a b (l.take k) + (adA M a (l.take k) + (l.getD k 0).toNat) % M) % M := by
  rw [List.take_succ_eq_append_getElem h, adA_append, adB_append, List.getD_eq_getElem?_getD, List.getElem?_eq_getElem h]
  exact ⟨rfl, rfl⟩
def adN (M a sh : Nat) (l : List UInt8) : Nat := adB M a 0 l * 2 ^ sh + adA M a l
/-- a difference of the second registers stays -/
theorem adB_diff (M : Nat) (l : List UInt8) : ∀ a b b', b < M → b' < M → (adB M a b l = adB M a b' l ↔ b = b') := by
  induction l with
  | nil => intro a b b' _ _; exact Iff.rfl
  | cons c l ih =>
    intro a b b' hb hb'
    have hM : 0 < M := by omega
    have := ih ((a + c.toNat) % M) _ _ (Nat.mod_lt (b + (a + c.toNat) % M) hM) (Nat.mod_lt (b' + (a + c.toNat) % M) hM)
    show adB M _ _ l = adB M _ _ l ↔ _
    rw [this]
    constructor
    · intro h
      have hx : (a + c.toNat) % M < M := Nat.mod_lt _ hM
      generalize (a + c.toNat) % M = x at *
      rcases Nat.lt_or_ge (b + x) M with h1 | h1 <;> rcases Nat.lt_or_ge (b' + x) M with h2 | h2
      · rw [Nat.mod_eq_of_lt h1, Nat.mod_eq_of_lt h2] at h; omega
      · rw [Nat.mod_eq_of_lt h1, Nat.mod_eq_sub_mod h2, Nat.mod_eq_of_lt (by omega)] at h; omega
      · rw [Nat.mod_eq_of_lt h2, Nat.mod_eq_sub_mod h1, Nat.mod_eq_of_lt (by omega)] at h; omega
      · rw [Nat.mod_eq_sub_mod h1, Nat.mod_eq_sub_mod h2, Nat.mod_eq_of_lt (by omega), Nat.mod_eq_of_lt (by omega)] at h; omega
    · intro h; rw [h]
/-- two bytes change their places -/
theorem ad_swap (M a0 sh : Nat) (p q : List UInt8) (x y : UInt8) (h0 : a0 < M) (hM : M ≤ 2 ^ sh) :
    adN M a0 sh (p ++ x :: y :: q) = adN M a0 sh (p ++ y :: x :: q) ↔ x.toNat % M = y.toNat % M := by
  have hMp : 0 < M := by omega
  unfold adN
  rw [adA_append, adA_append, adB_append, adB_append]
  have hA := adA_lt M a0 p h0
  have hB := adB_lt M p a0 0 (by omega)
  generalize adA M a0 p = a at *
  generalize adB M a0 0 p = b at *
  show adB M ((((a + x.toNat) % M) + y.toNat) % M) ((((b + (a + x.toNat) % M) % M) + (((a + x.toNat) % M) + y.toNat) % M) % M) q * 2 ^ sh + adA M ((((a + x.toNat) % M) + y.toNat) % M) q =
    adB M ((((a + y.toNat) % M) + x.toNat) % M) ((((b + (a + y.toNat) % M) % M) + (((a + y.toNat) % M) + x.toNat) % M) % M) q * 2 ^ sh + adA M ((((a + y.toNat) % M) + x.toNat) % M) q ↔ _
  have e : ((a + x.toNat) % M + y.toNat) % M = ((a + y.toNat) % M + x.toNat) % M := by
    rw [Nat.mod_add_mod, Nat.mod_add_mod]; congr 1; omega
  rw [e]
  have hc : ((a + y.toNat) % M + x.toNat) % M < M := Nat.mod_lt _ hMp
  generalize ((a + y.toNat) % M + x.toNat) % M = c at *
  have hAq := adA_lt M c q hc
  have key := adB_diff M q c ((((b + (a + x.toNat) % M) % M) + c) % M) ((((b + (a + y.toNat) % M) % M) + c) % M) (Nat.mod_lt _ hMp) (Nat.mod_lt _ hMp)
  have hinj : ∀ s t : Nat, s * 2 ^ sh + adA M c q = t * 2 ^ sh + adA M c q ↔ s = t := by
    intro s t
    constructor
    · intro h
      have h2 : s * 2 ^ sh = t * 2 ^ sh := by omega
      exact Nat.eq_of_mul_eq_mul_right (Nat.pow_pos (by decide)) h2
    · intro h; rw [h]
  rw [hinj, key]
  have can : ∀ u v w : Nat, (u + w) % M = (v + w) % M → u % M = v % M := by
    intro u v w h
    have h2 : ((u : Int) + (w : Int)) % (M : Int) = ((v : Int) + (w : Int)) % (M : Int) := by
      have := congrArg (fun n : Nat => (n : Int)) h
      simpa using this
    have h3 := (Int.emod_add_cancel_right (w : Int)).1 h2
    have h4 : (((u % M : Nat)) : Int) = ((v % M : Nat) : Int) := by simpa using h3
    exact Int.ofNat.inj h4
  constructor
  · intro h
    have h1 := can _ _ _ h
    rw [Nat.mod_mod, Nat.mod_mod, Nat.add_comm b, Nat.add_comm b] at h1
    have h2 := can _ _ _ h1
    rw [Nat.mod_mod, Nat.mod_mod, Nat.add_comm a, Nat.add_comm a] at h2
    exact can _ _ _ h2
  · intro h
    have h1 : (a + x.toNat) % M = (a + y.toNat) % M := by rw [Nat.add_mod, h, ← Nat.add_mod]
    rw [h1]

/-! the walk's own forms -/
theorem ad_out (A B sh : Nat) (hA : A < 2 ^ sh) (h : B * 2 ^ sh + A < 4294967296) (hsh : sh < 32) :
    bits .or .u32 (IntKind.u32.wrap ((B : Int) * 2 ^ sh)) (A : Int) = ((B * 2 ^ sh + A : Nat) : Int) := by
  have e : ((B : Int) * 2 ^ sh) = ((B * 2 ^ sh : Nat) : Int) := by simp
  rw [e, IntWalk.u32_in _ ⟨by omega, by omega⟩, u32_or_nat _ _ (by omega) (by omega), nat_join sh _ _ (by simp) hA]
end Go.Proofs.Ytdjddiajnalffaa
