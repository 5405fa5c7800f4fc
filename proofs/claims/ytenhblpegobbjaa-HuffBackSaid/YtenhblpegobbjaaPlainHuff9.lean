/- Pack, bit by bit; what Pack writes is what Unpack reads. Plain. -/
import Derived.Test.YtenhblpegobbjaaPlainHuff7
import Derived.Test.YtenhblpegobbjaaPlainHuff8
namespace Go.Proofs.Ytenhblpegobbjaa
set_option linter.unusedVariables false
set_option linter.unusedSimpArgs false
namespace Huff
/-- one bit more, in a new byte -/
theorem pack_new (hd : List Nat) (l : List Bool) (b : Bool) (h : l.length % 8 = 0) : hd ++ packBits (l ++ [b]) = (hd ++ packBits l) ++ [b2n b * 2 ^ (7 - l.length % 8)] := by
  rw [packBits_new l b h, List.append_assoc, h]
/-- one bit more, in the last byte -/
theorem pack_in (hd : List Nat) (l : List Bool) (b : Bool) (h : l.length % 8 ≠ 0) :
    ∃ Q v, hd ++ packBits l = Q ++ [v] ∧ v % 2 ^ (8 - l.length % 8) = 0 ∧ v < 256 ∧ hd ++ packBits (l ++ [b]) = Q ++ [v + b2n b * 2 ^ (7 - l.length % 8)] := by
  obtain ⟨h1, h2⟩ := packBits_in l b h
  have hl := packBits_length l
  have hpos : 0 < (packBits l).length := by rw [hl]; omega
  have hne : packBits l ≠ [] := List.length_pos_iff.1 hpos
  have e1 : packBits l = (packBits l).dropLast ++ [(packBits l).getLast hne] := (List.dropLast_concat_getLast hne).symm
  have e2 : (packBits l).getD ((packBits l).length - 1) 0 = (packBits l).getLast hne := by
    rw [List.getD_eq_getElem?_getD, List.getElem?_eq_getElem (by omega), List.getLast_eq_getElem]; rfl
  have hv : (packBits l).getLast hne < 256 := by
    have hm := List.getLast_mem hne
    unfold packBits at hm
    obtain ⟨j, _, hj⟩ := List.mem_map.1 hm
    have hb := byteV_lt fun t => l.getD (8 * j + t) false
    rw [hj] at hb
    exact hb
  rw [e2] at h1 h2
  refine ⟨hd ++ (packBits l).dropLast, (packBits l).getLast hne, by rw [List.append_assoc, ← e1], h2, hv, ?_⟩
  rw [h1, List.append_assoc]
  congr 1
  generalize (packBits l).getLast hne = v at *
  have e5 : ∀ u, (packBits l).set ((packBits l).length - 1) u = (packBits l).dropLast ++ [u] := by
    intro u
    generalize (packBits l).dropLast = R at *
    rw [e1, List.length_append, List.length_singleton, Nat.add_sub_cancel, List.set_append_right _ _ (Nat.le_refl _), Nat.sub_self]
    rfl
  rw [e5]
/-- the head: how many bits each byte's sign has, and how many bytes there are -/
def head (s : List UInt8) (D : List Nat) : List Nat := D ++ [s.length / 65536 % 256, s.length / 256 % 256, s.length % 256]
def ofInts (D : List Nat) : List Int := D.map fun n : Nat => (n : Int)
end Huff
end Go.Proofs.Ytenhblpegobbjaa
