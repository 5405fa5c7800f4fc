/- Lines joined and parted, in plain words: what strings.Split, Join, Index, TrimSuffix answer at them. -/
import Derived.Test.YtenhblpegobbjaaDoorPlainXxd
import Derived.Test.YtenhblpegobbjaaDoorCommon
import Derived.Lib.Split
import Derived.Lib.SplitLaws
import Derived.Lib.CountLaws
import Derived.Lib.Join
import Derived.Lib.Strings
import Derived.Lib.IndexLaws
namespace Go.Proofs.YtenhblpegobbjaaDoor
set_option linter.unusedVariables false
set_option linter.unusedSimpArgs false
namespace Xx
theorem index1_no : ∀ (l : List UInt8), 10 ∉ l → Lib.index l [10] = -1
  | [], _ => rfl
  | b :: l, h => by
    have h1 : b ≠ 10 := fun e => h (by rw [e]; simp)
    have ih := index1_no l fun e => h (by simp [e])
    unfold Lib.index
    have : ([10] : List UInt8).isPrefixOf (b :: l) = false := by simp [List.isPrefixOf]; exact fun e => h1 e.symm
    rw [this, ih]; rfl
theorem index1_at : ∀ (p r : List UInt8), 10 ∉ p → Lib.index (p ++ 10 :: r) [10] = (p.length : Int)
  | [], r, _ => by
    show Lib.index (10 :: r) [10] = 0
    unfold Lib.index
    rfl
  | b :: p, r, h => by
    have h1 : b ≠ 10 := fun e => h (by rw [e]; simp)
    have ih := index1_at p r fun e => h (by simp [e])
    rw [List.cons_append]
    unfold Lib.index
    have : ([10] : List UInt8).isPrefixOf (b :: (p ++ 10 :: r)) = false := by simp [List.isPrefixOf]; exact fun e => h1 e.symm
    have h3 : ((p.length : Int) == -1) = false := by rw [beq_eq_false_iff_ne]; omega
    rw [this, ih, h3, List.length_cons]
    simp
theorem index2_has : ∀ (p r : List UInt8), 0 ≤ Lib.index (p ++ 32 :: 32 :: r) [32, 32]
  | [], r => by
    show 0 ≤ Lib.index (32 :: 32 :: r) [32, 32]
    unfold Lib.index
    have : ([32, 32] : List UInt8).isPrefixOf (32 :: 32 :: r) = true := by simp [List.isPrefixOf]
    rw [this]; exact Int.le_refl 0
  | b :: p, r => by
    have ih := index2_has p r
    rw [List.cons_append]
    unfold Lib.index
    split
    · decide
    · have h3 : (Lib.index (p ++ 32 :: 32 :: r) [32, 32] == -1) = false := by rw [beq_eq_false_iff_ne]; omega
      rw [h3]
      simp only [Bool.false_eq_true, if_false]
      omega
theorem line_two (c g at_ : Nat) (r : List UInt8) : ∃ p q, lineOf c g at_ r = p ++ 32 :: 32 :: q := by
  unfold lineOf
  rw [List.replicate_succ, List.replicate_succ]
  refine ⟨Digits.ds 16 at_ 8 ++ 58 :: grp g 0 r, List.replicate (2 * c + (c + g - 1) / g - (grp g 0 r).length) 32 ++ shown r, ?_⟩
  simp
theorem join_nl : ∀ (L : List (List UInt8)), Lib.join L [10] = joinNl L
  | [] => rfl
  | [x] => Lib.join_one x [10]
  | x :: y :: r => by
    have ih := join_nl (y :: r)
    rw [Lib.join_cons] at ih ⊢
    rw [joinNl_cons x (y :: r) (by simp), ← ih]
    simp [Lib.joinTail]
theorem joinNl_more : ∀ (L : List (List UInt8)), L ≠ [] → L.flatMap (· ++ [10]) = joinNl L ++ [10]
  | [], h => absurd rfl h
  | [x], _ => by simp [joinNl]
  | x :: y :: r, _ => by
    have ih := joinNl_more (y :: r) (by simp)
    rw [List.flatMap_cons, ih, joinNl_cons x _ (by simp)]
    simp
theorem trim_nl (s : List UInt8) : Lib.trimSuffix (s ++ [10]) [10] = s := by
  unfold Lib.trimSuffix
  have : Lib.hasSuffix (s ++ [10]) [10] = true := by
    unfold Lib.hasSuffix
    rw [List.isSuffixOf_iff_suffix]
    exact List.suffix_append s [10]
  rw [if_pos this]
  simp
theorem split_nl : ∀ (L : List (List UInt8)), L ≠ [] → (∀ x ∈ L, 10 ∉ x) → Lib.countB (bstr (joinNl L)) (bstr [10]) = L.length - 1 ∧ Lib.splitB (bstr [10]) 0 (L.length - 1) (bstr (joinNl L)) = L.map bstr
  | [], h, _ => absurd rfl h
  | [x], _, h => by
    have hi : Lib.indexB (bstr (joinNl [x])) (bstr [10]) = -1 := index1_no x (h x (by simp))
    exact ⟨Lib.countB_miss _ _ hi, rfl⟩
  | x :: y :: r, _, h => by
    obtain ⟨h1, h2⟩ := split_nl (y :: r) (by simp) fun z hz => h z (by simp [hz])
    have hi : Lib.indexB (bstr (joinNl (x :: y :: r))) (bstr [10]) = (x.length : Int) := index1_at x (joinNl (y :: r)) (h x (by simp))
    have hs : (bstr (joinNl (x :: y :: r))).size = x.length + 1 + (joinNl (y :: r)).length := by
      rw [bstr_size, joinNl_cons x _ (by simp), List.length_append, List.length_cons]; omega
    have hcut : ∀ (l : List UInt8) (i j : Nat), (bstr l).extract i j = bstr ((l.drop i).take (j - i)) := fun l i j => by
      apply ByteArray.ext
      apply Array.ext'
      rw [ByteArray.data_extract, Array.toList_extract]
      rfl
    have he : (bstr (joinNl (x :: y :: r))).extract (x.length + (bstr [10]).size) (bstr (joinNl (x :: y :: r))).size = bstr (joinNl (y :: r)) := by
      rw [hs, hcut, joinNl_cons x _ (by simp), show (bstr [10]).size = 1 from rfl, show x.length + 1 + (joinNl (y :: r)).length - (x.length + 1) = (joinNl (y :: r)).length by omega, ← List.drop_drop, List.drop_left, List.drop_succ_cons, List.drop_zero, List.take_length]
    have hx : (bstr (joinNl (x :: y :: r))).extract 0 (x.length + 0) = bstr x := by
      rw [hcut, joinNl_cons x _ (by simp)]
      simp
    constructor
    · rw [Lib.countB_hit _ _ x.length (by decide) hi, he, h1]
      simp only [List.length_cons]
      omega
    · have : (x :: y :: r).length - 1 = ((y :: r).length - 1) + 1 := by simp
      rw [this, Lib.splitB_hit _ 0 _ _ x.length hi, hx, he, h2]
      rfl
end Xx
end Go.Proofs.YtenhblpegobbjaaDoor
