/- Contract of the laws' own helper found. -/
import Derived.Test.YtkahceijhokmoaaFindC
import Derived.Test.YtkahceijhokmoaaSlEqual
import Derived.Test.YtkahceijhokmoaaInfo
namespace Go.Proofs.Ytkahceijhokmoaa
open Go.RowKit
set_option linter.unusedVariables false
set_option linter.unusedSimpArgs false
theorem occ_f : Kmp.occ [97, 98, 97, 98, 97, 98, 97] [97, 98, 97] 7 = [0, 2, 4] := by decide +kernel
theorem read_f : Find.readTo [52, 63, 32, 48, 97] [] = some [4, -1, 0, 10] := by decide +kernel
theorem like_f : Like.occ [4, -1, 0, 10] 2 [65, 10, 74, 10] 4 = [0, 2] := by decide +kernel
theorem brds_f : (Kmp.brds [97, 98, 97, 98]).drop 1 = [0, 0, 1, 2] := by decide +kernel
theorem All_f (w : World) : Calls Try.prog 9 #[.string (bstr [97, 98, 97, 98, 97, 98, 97]), .string (bstr [97, 98, 97])] w fun e w' => ∃ a cap,
      e = .returned (.tuple #[.slice a 3 cap, .nilIface]) ∧ Owns w' w.heap.size 3 1 a 3 cap (ivals [0, 2, 4]) ∧ Below w.heap.size w w' := by
  refine (All_any _ _ w (by decide) (by decide) (by decide)).mono ?_
  rintro e w' ⟨a, cap, h⟩
  have e1 : Kmp.occ (bstr [97, 98, 97, 98, 97, 98, 97]).data.toList (bstr [97, 98, 97]).data.toList (bstr [97, 98, 97, 98, 97, 98, 97]).size = [0, 2, 4] := occ_f
  rw [e1] at h
  exact ⟨a, cap, h⟩
theorem Read_f (w : World) : Calls Try.prog 11 #[.string (bstr [52, 63, 32, 48, 97])] w fun e w' => ∃ a cap,
      e = .returned (.tuple #[.slice a 4 cap, .nilIface]) ∧ Owns w' w.heap.size 3 1 a 4 cap (ivals [4, -1, 0, 10]) ∧ Below w.heap.size w w' :=
  Read_yes _ [4, -1, 0, 10] w (by decide) read_f (by decide) (by decide)
theorem Like_f (a : Option Addr) (c : Nat) (w : World) (ha : ReadsI w a [4, -1, 0, 10]) (hab : ∀ x, a = some x → x.block < w.heap.size) : Calls Try.prog 12 #[.string (bstr [65, 10, 74, 10]), .slice a 4 c] w fun e w' => ∃ a' cap,
      e = .returned (.tuple #[.slice a' 2 cap, .nilIface]) ∧ Owns w' w.heap.size 3 1 a' 2 cap (ivals [0, 2]) ∧ Below w.heap.size w w' := by
  refine (Like_any (bstr [65, 10, 74, 10]) a c 2 [4, -1, 0, 10] w (by decide) rfl (by decide) (by decide) ha hab).mono ?_
  rintro e w' ⟨a, cap, h⟩
  have e1 : Like.occ [4, -1, 0, 10] 2 (bstr [65, 10, 74, 10]).data.toList (bstr [65, 10, 74, 10]).size = [0, 2] := like_f
  rw [e1] at h
  exact ⟨a, cap, h⟩
theorem Borders_f (w : World) : Calls Try.prog 13 #[.string (bstr [97, 98, 97, 98])] w fun e w' =>
      ∃ g, e = .returned (.slice (some ⟨g, 1, none⟩) 4 4) ∧ RowAt w' g 1 3 (ivals [0, 0, 1, 2]) ∧ Below w.heap.size w w' := by
  refine (Borders_any (bstr [97, 98, 97, 98]) w (by decide) (by decide)).mono ?_
  rintro e w' ⟨he, hr, hb, _⟩
  have e1 : (Kmp.brds (bstr [97, 98, 97, 98]).data.toList).drop 1 = [0, 0, 1, 2] := brds_f
  rw [e1] at hr
  exact ⟨_, he, hr, hb⟩
set_option maxRecDepth 100000 in
set_option maxHeartbeats 1000000 in
theorem found_any (w : World) : Calls Try.prog 4 #[] w fun e w' => e = .returned (.bool true) ∧ Below w.heap.size w w' := by
  go_enter Try.func4, Try.ntmps4
  go_wp2_with fail
  refine (All_f _).mono ?_
  rintro e w1 ⟨a1, cap1, rfl, ho1, hb1⟩
  go_wp2_with fail
  refine (Read_f _).mono ?_
  rintro e w2 ⟨a2, cap2, rfl, ho2, hb2⟩
  replace ho1 := ho1.below hb2 (Nat.le_refl _)
  replace hb1 := hb1.trans (hb2.mono hb1.size)
  go_wp2_with fail
  refine (Like_f _ _ _ ho2.readsI ho2.blk_lt).mono ?_
  rintro e w3 ⟨a3, cap3, rfl, ho3, hb3⟩
  replace ho1 := ho1.below hb3 (Nat.le_refl _)
  replace hb1 := hb1.trans (hb3.mono hb1.size)
  clear ho2 hb2 hb3
  go_wp2_with fail
  refine (Equal_yes _ _ _ _ _ _ [0, 2, 4] _ rfl rfl (by decide) (ho1.alloc _).readsI (RowAt.new w3 3 #[.int .i64 0, .int .i64 2, .int .i64 4]).readsI).mono ?_
  rintro e w4 ⟨rfl, k1, rfl⟩
  go_wp2_with fail
  refine (Equal_yes _ _ _ _ _ _ [0, 2] _ rfl rfl (by decide) (((ho3.alloc _).drewN k1).alloc _).readsI (RowAt.new' _ _ (by simp) 3 #[.int .i64 0, .int .i64 2]).readsI).mono ?_
  rintro e w4 ⟨rfl, k2, rfl⟩
  go_wp2_with fail
  refine (Borders_f _).mono ?_
  rintro e w5 ⟨g5, rfl, hr5, hb5⟩
  go_wp2_with fail
  refine (Equal_yes _ _ _ _ _ _ [0, 0, 1, 2] _ rfl rfl (by decide) (hr5.alloc _).readsI (RowAt.new' _ _ (by simp) 3 #[.int .i64 0, .int .i64 0, .int .i64 1, .int .i64 2]).readsI).mono ?_
  rintro e w6 ⟨rfl, k3, rfl⟩
  go_wp2_with fail
  go_ret
  refine ⟨rfl, bdrewN (Below.alloc (hb1.trans ?_) ?_ _) _⟩
  · refine Below.trans ?_ (hb5.mono ?_)
    · exact bdrewN (Below.alloc (bdrewN (Below.alloc (Below.refl _ _) hb1.size _) _) (by simpa using Nat.le_succ_of_le hb1.size) _) _
    · simpa using Nat.le_trans hb1.size (by omega)
  · have := hb5.size
    simp at this
    have := hb1.size
    omega
end Go.Proofs.Ytkahceijhokmoaa
