/- Package lz, plain: one text, told. No program in sight. -/
import Derived.Test.YtnldobfafaajjaaPlainLz2
namespace Go.Proofs.Ytnldobfafaajjaa
set_option linter.unusedVariables false
set_option linter.unusedSimpArgs false
namespace Lz
def abc : List UInt8 := [97, 98, 99, 97, 98, 99, 97, 98, 99, 120]
instance (l : List UInt8) (j a n : Nat) : Decidable (Same l j a n) := by unfold Same; infer_instance
theorem abc_none (a : Nat) (h : a < 3 ∨ a = 9) (b n : Nat) (hb : Best abc a b n) : n = 0 ∧ b = 0 := by
  rcases hb.is with h1 | ⟨h1, h2, h3, h4, h5, h6⟩
  · exact h1
  · exfalso
    have h7 := h6.mono h1
    rcases h with h | h
    · have : (a = 1 ∧ b = 1) ∨ (a = 2 ∧ b = 1) ∨ (a = 2 ∧ b = 2) := by omega
      rcases this with ⟨rfl, rfl⟩ | ⟨rfl, rfl⟩ | ⟨rfl, rfl⟩ <;> exact absurd h7 (by decide)
    · subst h
      have := h7.1
      exact absurd this (by decide)
theorem abc_six (b n : Nat) (hb : Best abc 3 b n) : n = 6 ∧ b = 3 := by
  have h6 := hb.most 0 (by decide) (by decide) 6 (by decide) (by decide) (by decide)
  rcases hb.is with ⟨h1, h2⟩ | ⟨h1, h2, h3, h4, h5, h7⟩
  · omega
  · have h8 := h7.mono h6
    have hb3 : b = 1 ∨ b = 2 ∨ b = 3 := by omega
    rcases hb3 with rfl | rfl | rfl
    · exact absurd h8 (by decide)
    · exact absurd h8 (by decide)
    · refine ⟨?_, rfl⟩
      apply Nat.le_antisymm _ h6
      apply Nat.le_of_not_lt
      intro h9
      exact absurd (h7.mono (show 7 ≤ n by omega)) (by decide)
/-- where Pack may stand -/
def Stands (a : Nat) (toks : List Tok) (pl : List UInt8) : Prop :=
  (a = 0 ∧ toks = [] ∧ pl = []) ∨ (a = 1 ∧ toks = [] ∧ pl = [97]) ∨ (a = 2 ∧ toks = [] ∧ pl = [97, 98]) ∨ (a = 3 ∧ toks = [] ∧ pl = [97, 98, 99]) ∨ (a = 9 ∧ toks = [.plain [97, 98, 99], .back 3 6] ∧ pl = []) ∨ (a = 10 ∧ toks = [.plain [97, 98, 99], .back 3 6] ∧ pl = [120])
theorem abc_stands {a : Nat} {toks : List Tok} {pl : List UInt8} (h : Reach abc a toks pl) : Stands a toks pl := by
  unfold Stands
  induction h with
  | start => exact .inl ⟨rfl, rfl, rfl⟩
  | wait h hlt hb hn ih =>
    rcases ih with ⟨rfl, rfl, rfl⟩ | ⟨rfl, rfl, rfl⟩ | ⟨rfl, rfl, rfl⟩ | ⟨rfl, rfl, rfl⟩ | ⟨rfl, rfl, rfl⟩ | ⟨rfl, rfl, rfl⟩
    · exact .inr (.inl ⟨rfl, rfl, rfl⟩)
    · exact .inr (.inr (.inl ⟨rfl, rfl, rfl⟩))
    · exact .inr (.inr (.inr (.inl ⟨rfl, rfl, rfl⟩)))
    · exact absurd (abc_six _ _ hb).1 (by decide)
    · exact .inr (.inr (.inr (.inr (.inr ⟨rfl, rfl, rfl⟩))))
    · exact absurd hlt (by decide)
  | full h hlt hb hn ih =>
    rcases ih with ⟨rfl, rfl, rfl⟩ | ⟨rfl, rfl, rfl⟩ | ⟨rfl, rfl, rfl⟩ | ⟨rfl, rfl, rfl⟩ | ⟨rfl, rfl, rfl⟩ | ⟨rfl, rfl, rfl⟩ <;> exact absurd hn (by decide)
  | back h b n h3 hb ih =>
    rcases ih with ⟨rfl, rfl, rfl⟩ | ⟨rfl, rfl, rfl⟩ | ⟨rfl, rfl, rfl⟩ | ⟨rfl, rfl, rfl⟩ | ⟨rfl, rfl, rfl⟩ | ⟨rfl, rfl, rfl⟩
    · have := (abc_none 0 (by decide) _ _ hb).1; omega
    · have := (abc_none 1 (by decide) _ _ hb).1; omega
    · have := (abc_none 2 (by decide) _ _ hb).1; omega
    · obtain ⟨rfl, rfl⟩ := abc_six _ _ hb
      exact .inr (.inr (.inr (.inr (.inl ⟨rfl, rfl, rfl⟩))))
    · have := (abc_none 9 (by decide) _ _ hb).1; omega
    · rcases hb.is with h1 | h1
      · omega
      · have := h1.2.2.2.2.2.1
        have e : abc.length = 10 := rfl
        omega
theorem abc_told {toks : List Tok} {pl : List UInt8} (h : Reach abc 10 toks pl) : bytes (flushed toks pl) = [2, 97, 98, 99, 131, 0, 3, 0, 120] := by
  rcases abc_stands h with ⟨h1, _⟩ | ⟨h1, _⟩ | ⟨h1, _⟩ | ⟨h1, _⟩ | ⟨h1, _⟩ | ⟨_, rfl, rfl⟩
  · omega
  · omega
  · omega
  · omega
  · omega
  · rfl
/-- eight times the same -/
theorem aaa_tells : Tells [.plain [97], .back 1 7] [97, 97, 97, 97, 97, 97, 97, 97] := by
  have h1 : Tells ([] ++ [.plain [97]]) [97] := Tells.snoc (.plain [97]) .nil ⟨by decide, by decide⟩
  exact Tells.snoc (.back 1 7) h1 ⟨by decide, by decide, by decide, by decide, by decide⟩
theorem aaa_bytes : bytes [.plain [97], .back 1 7] = [0, 97, 132, 0, 1] := rfl
end Lz
end Go.Proofs.Ytnldobfafaajjaa
