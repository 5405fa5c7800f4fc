/- The fact packed; the law LzBack: the walk. -/
import Derived.Test.YtnldobfafaajjaaLzE
import Derived.Test.YtnldobfafaajjaaPlainLz3
namespace Go.Proofs.Ytnldobfafaajjaa
open Go.RowKit Go.Maps
set_option linter.unusedVariables false
set_option linter.unusedSimpArgs false
set_option maxRecDepth 100000 in
theorem packed_any (w : World) : Calls Try.prog 8 #[] w fun e w' => e = .returned (.bool true) ∧ Below w.heap.size w w' := by
  have h1 : ∀ w, Calls Try.prog 10 #[.string ⟨#[97, 98, 99, 97, 98, 99, 97, 98, 99, 120]⟩] w fun e w' => e = .returned (.tuple #[.string ⟨#[2, 97, 98, 99, 131, 0, 3, 0, 120]⟩, .nilIface]) ∧ Below w.heap.size w w' := fun w =>
    (Pack_any Lz.abc w (by decide)).mono fun e w' ⟨toks, pl, hr, he, hb⟩ => ⟨by rw [he, Lz.abc_told hr]; rfl, hb⟩
  have h2 : ∀ w, Calls Try.prog 27 #[.string ⟨#[0, 97, 132, 0, 1]⟩] w fun e w' => e = .returned (.tuple #[.string ⟨#[97, 97, 97, 97, 97, 97, 97, 97]⟩, .nilIface]) ∧ Below w.heap.size w w' := fun w =>
    Unpack_any [.plain [97], .back 1 7] [97, 97, 97, 97, 97, 97, 97, 97] w Lz.aaa_tells (by decide) (by decide)
  have H1 := Lib.hid h1; clear h1
  have H2 := Lib.hid h2; clear h2
  go_enter Try.func8, Try.ntmps8
  go_wp2_with fail
  refine (H1.out _).mono ?_
  rintro e w1 ⟨rfl, hb1⟩
  go_wp2_with fail
  refine (H2.out _).mono ?_
  rintro e w2 ⟨rfl, hb2⟩
  go_wp2_with fail
  go_ret
  exact ⟨rfl, hb1.trans (hb2.mono hb1.size)⟩
end Go.Proofs.Ytnldobfafaajjaa
