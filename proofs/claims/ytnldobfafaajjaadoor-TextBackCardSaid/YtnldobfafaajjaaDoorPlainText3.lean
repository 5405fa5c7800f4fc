/- Signs that are written as bytes are read from them: plain Lean. -/
import Derived.Test.YtnldobfafaajjaaDoorPlainText
namespace Go.Proofs.YtnldobfafaajjaaDoor
set_option linter.unusedVariables false
set_option linter.unusedSimpArgs false
namespace Txt
open Go.Lib
theorem u8n (x : Nat) (h : x < 256) : (x.toUInt8).toNat = x := by simp; omega
theorem dec_of_enc (r : Nat) (h1 : r ≤ 1114111) (h2 : r < 55296 ∨ 57343 < r) (t : List UInt8) : dec1 (encodeRune (r : Nat) ++ t) = (r, (encodeRune (r : Nat)).length) := by
  by_cases a : r ≤ 127
  · have e : encodeRune (r : Nat) = [r.toUInt8] := by
      unfold encodeRune; rw [encodeRuneZ_one (by omega) (by omega)]; rfl
    rw [e]
    show decodeN (t.length + 1) (r.toUInt8).toNat (bt t 0) (bt t 1) (bt t 2) = (r, 1)
    rw [u8n r (by omega)]
    unfold decodeN
    rw [if_pos (by omega)]
  by_cases b : r ≤ 2047
  · have e : encodeRune (r : Nat) = [(192 + r / 64).toUInt8, (128 + r % 64).toUInt8] := by
      unfold encodeRune; rw [encodeRuneZ_two (by omega) (by omega)]; rfl
    rw [e]
    show decodeN (t.length + 1 + 1) ((192 + r / 64).toUInt8).toNat ((128 + r % 64).toUInt8).toNat (bt t 0) (bt t 1) = (r, 2)
    rw [u8n _ (by omega), u8n _ (by omega)]
    unfold decodeN
    rw [if_neg (by omega), if_pos (by omega), if_pos (by omega)]
    refine Prod.ext ?_ rfl
    simp only; omega
  by_cases c : r ≤ 65535
  · have e : encodeRune (r : Nat) = [(224 + r / 4096).toUInt8, (128 + r / 64 % 64).toUInt8, (128 + r % 64).toUInt8] := by
      unfold encodeRune; rw [encodeRuneZ_three (by omega)]; rfl
    rw [e]
    show decodeN (t.length + 1 + 1 + 1) ((224 + r / 4096).toUInt8).toNat ((128 + r / 64 % 64).toUInt8).toNat ((128 + r % 64).toUInt8).toNat (bt t 0) = (r, 3)
    rw [u8n _ (by omega), u8n _ (by omega), u8n _ (by omega)]
    unfold decodeN
    rw [if_neg (by omega), if_neg (by omega), if_pos (by omega), if_pos (by omega)]
    refine Prod.ext ?_ rfl
    simp only; omega
  · have e : encodeRune (r : Nat) = [(240 + r / 262144).toUInt8, (128 + r / 4096 % 64).toUInt8, (128 + r / 64 % 64).toUInt8, (128 + r % 64).toUInt8] := by
      unfold encodeRune; rw [encodeRuneZ_four (by omega) (by omega)]; rfl
    rw [e]
    show decodeN (t.length + 1 + 1 + 1 + 1) ((240 + r / 262144).toUInt8).toNat ((128 + r / 4096 % 64).toUInt8).toNat ((128 + r / 64 % 64).toUInt8).toNat ((128 + r % 64).toUInt8).toNat = (r, 4)
    rw [u8n _ (by omega), u8n _ (by omega), u8n _ (by omega), u8n _ (by omega)]
    unfold decodeN
    rw [if_neg (by omega), if_neg (by omega), if_neg (by omega), if_pos (by omega), if_pos (by omega)]
    refine Prod.ext ?_ rfl
    simp only; omega
theorem enc_two (r : Nat) (h : 128 ≤ r) : 2 ≤ (encodeRune (r : Nat)).length := by
  have e : (encodeRune (r : Nat)).length = (encodeRuneZ (r : Nat)).length := by simp [encodeRune]
  rw [e]
  unfold encodeRuneZ
  repeat' split
  all_goals (try simp)
  omega
theorem step_enc (r : Nat) (h1 : r ≤ 1114111) (h2 : r < 55296 ∨ 57343 < r) (t : List UInt8) : step (encodeRune (r : Nat) ++ t) = (r, (encodeRune (r : Nat)).length) := by
  unfold step
  rw [dec_of_enc r h1 h2 t]
  rw [if_neg]
  intro h
  obtain ⟨h3, h4⟩ := Prod.mk.inj h
  subst h3
  have := enc_two 65533 (by omega)
  omega
/-- what is written is read -/
theorem sgn_of_enc (L : List Nat) (h : ∀ r ∈ L, r ≤ 1114111 ∧ (r < 55296 ∨ 57343 < r)) : (sgn (L.flatMap fun r : Nat => encodeRune (r : Nat))).map (·.1) = L := by
  induction L with
  | nil => rfl
  | cons r L ih =>
    have hr := h r List.mem_cons_self
    have ih' := ih fun x hx => h x (List.mem_cons_of_mem _ hx)
    rw [List.flatMap_cons]
    have hz := (encodeRuneZ_length (r : Nat)).1
    have e : (encodeRune (r : Nat)).length = (encodeRuneZ (r : Nat)).length := by simp [encodeRune]
    have hne : encodeRune (r : Nat) ++ (L.flatMap fun r : Nat => encodeRune (r : Nat)) ≠ [] := by
      intro h
      have := congrArg List.length h
      rw [List.length_append, List.length_nil] at this
      omega
    rw [sgn_cons _ hne, step_enc r hr.1 hr.2]
    simp only [List.drop_left, List.map_cons, ih']
end Txt
end Go.Proofs.YtnldobfafaajjaaDoor
