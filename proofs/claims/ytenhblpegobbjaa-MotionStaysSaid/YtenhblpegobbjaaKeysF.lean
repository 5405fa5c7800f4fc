/- Contracts of package keys: arg, as one. -/
import Derived.Test.YtenhblpegobbjaaChecked
import Derived.Test.YtenhblpegobbjaaOwn
import Derived.Test.YtenhblpegobbjaaKeysD
import Derived.Test.YtenhblpegobbjaaKeysE
namespace Go.Proofs.Ytenhblpegobbjaa
open Go.RowKit
set_option linter.unusedVariables false
set_option linter.unusedSimpArgs false
theorem arg_any (g : Nat) (c : UInt8) (L : List UInt8) (bad : Bool) (w : World) (h : Rd w g L bad) :
    Calls Try.prog 60 #[.pointer (some ⟨g, 0, none⟩), .int .u8 ((c.toNat : Nat) : Int)] w fun e w' => ∃ s1 : ByteArray, s1.data.toList = L.take (Keys.want c) ∧ e = .returned (.tuple #[.string s1, .bool (decide (Keys.want c ≤ L.length))]) ∧ Rd w' g (L.drop (Keys.want c)) (bad || (L.take (Keys.want c)).any (Keys.wrong (Keys.want c))) ∧ w.grownBy w' (some g) := by
  by_cases h1 : c.toNat = 39 ∨ [109, 113, 64].contains c = true
  · have hw : Keys.want c = 1 := by unfold Keys.want; rw [if_pos h1]
    rw [hw]
    cases L with
    | nil =>
      refine (arg_one_nil g c bad w h h1).mono ?_
      rintro e w' ⟨rfl, hr, hg⟩
      exact ⟨ByteArray.empty, rfl, rfl, by simpa using hr, hg⟩
    | cons d l =>
      refine (arg_one_cons g c d l bad w h h1).mono ?_
      rintro e w' ⟨s1, hs1, rfl, hr, hg⟩
      exact ⟨s1, by simpa using hs1, by simp, by simpa [Keys.wrong] using hr, hg⟩
  · by_cases h2 : c.toNat = 102 ∨ c.toNat = 114
    · have hw : Keys.want c = 2 := by unfold Keys.want; rw [if_neg h1, if_pos h2]
      rw [hw]
      match L, h with
      | [], h =>
        refine (arg_two_nil g c bad w h h2).mono ?_
        rintro e w' ⟨rfl, hr, hg⟩
        exact ⟨ByteArray.empty, rfl, rfl, by simpa using hr, hg⟩
      | [d], h =>
        refine (arg_two_one g c d bad w h h2).mono ?_
        rintro e w' ⟨s1, hs1, rfl, hr, hg⟩
        exact ⟨s1, by simpa using hs1, by simp, by simpa [Keys.wrong] using hr, hg⟩
      | d :: d2 :: l, h =>
        refine (arg_two_two g c d d2 l bad w h h2).mono ?_
        rintro e w' ⟨s1, hs1, rfl, hr, hg⟩
        exact ⟨s1, by simpa using hs1, by simp, by simpa [Keys.wrong] using hr, hg⟩
    · have hw : Keys.want c = 0 := by unfold Keys.want; rw [if_neg h1, if_neg h2]
      rw [hw]
      refine (arg_none g c L bad w h (by omega) (by simpa using fun h => h1 (Or.inr h)) (by omega) (by omega)).mono ?_
      rintro e w' ⟨rfl, hr, hg⟩
      exact ⟨ByteArray.empty, by simp, by simp, by simpa using hr, hg⟩
end Go.Proofs.Ytenhblpegobbjaa
