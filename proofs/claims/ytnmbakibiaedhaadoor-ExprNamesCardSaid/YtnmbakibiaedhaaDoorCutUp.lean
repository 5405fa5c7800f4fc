/- The fact cutUp. -/
import Derived.Test.YtnmbakibiaedhaaDoorLexE2
import Derived.Test.YtnmbakibiaedhaaDoorPick
namespace Go.Proofs.YtnmbakibiaedhaaDoor
open Go.RowKit
set_option linter.unusedVariables false
set_option linter.unusedSimpArgs false
def cutToks : List Tok := [([97], 0), ([61, 61], 1), ([49, 50], 3), ([59], 10)]
set_option maxRecDepth 100000 in
theorem cutUp_any (w : World) (hm : MarksAt w) : Calls Tryd.prog 16 #[] w fun e w' => e = .returned (.bool true) ∧ Below w.heap.size w w' := by
  have hlex := Lex_any [97, 61, 61, 49, 50, 32, 35, 32, 98, 10, 59] w (by decide) hm
  have hval : Lex.lexA [97, 61, 61, 49, 50, 32, 35, 32, 98, 10, 59] 0 = some cutToks := by decide
  have HV := Lib.hid hval; have HL := Lib.hid hlex
  clear hval hlex
  have HN := Lib.hid (fun w => Name_x1 w)
  go_enter Tryd.func16, Tryd.ntmps16
  go_wp2_with fail
  refine HL.out.mono ?_
  rintro e w1 ⟨hb, ⟨T, a, cap, hT, rfl, ho⟩ | ⟨hT, _⟩⟩
  · have hTe : T = cutToks := Option.some.inj (hT.symm.trans HV.out)
    subst hTe
    have hrd := ownTok ho
    have HR := Lib.hid hrd; have HB := Lib.hid hb
    clear hrd hT ho hb
    go_wp2_with fail
    refine (tokEqual_yes a _ 4 cap 4 cutToks _ rfl (by decide) (HR.out.below ((Below.refl _ _).alloc (Nat.le_refl _) _) (Nat.le_refl _)) (rowTok (RowAt.new2 w1 w1.heap.size rfl 41 (tokCells cutToks)))).mono ?_
    rintro e w2 ⟨rfl, k, rfl⟩
    go_wp2_with fail
    refine (HN.out _).mono ?_
    rintro e w2 ⟨rfl, rfl⟩
    go_wp2_with fail
    go_ret
    exact ⟨rfl, bdrewN (HB.out.alloc HB.out.size _) _⟩
  · rw [HV.out] at hT; cases hT
end Go.Proofs.YtnmbakibiaedhaaDoor
