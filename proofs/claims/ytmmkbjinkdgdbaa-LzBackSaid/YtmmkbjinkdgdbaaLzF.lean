/- The fact packed; the law LzBack: the walk. -/
import Derived.Test.YtmmkbjinkdgdbaaLzE
import Derived.Test.YtmmkbjinkdgdbaaPlainLz3
namespace Go.Proofs.Ytmmkbjinkdgdbaa
open Go.RowKit Go.Maps
set_option linter.unusedVariables false
set_option linter.unusedSimpArgs false
set_option maxRecDepth 100000 in
theorem packed_any (w : World) : Calls Try.prog 29 #[] w fun e w' => e = .returned (.bool true) ∧ Below w.heap.size w w' := by
  have h1 : ∀ w, Calls Try.prog 30 #[.string ⟨#[97, 98, 99, 97, 98, 99, 97, 98, 99, 120]⟩] w fun e w' => e = .returned (.tuple #[.string ⟨#[2, 97, 98, 99, 131, 0, 3, 0, 120]⟩, .nilIface]) ∧ Below w.heap.size w w' := fun w =>
    (Pack_any Lz.abc w (by decide)).mono fun e w' ⟨toks, pl, hr, he, hb⟩ => ⟨by rw [he, Lz.abc_told hr]; rfl, hb⟩
  have h2 : ∀ w, Calls Try.prog 31 #[.string ⟨#[0, 97, 132, 0, 1]⟩] w fun e w' => e = .returned (.tuple #[.string ⟨#[97, 97, 97, 97, 97, 97, 97, 97]⟩, .nilIface]) ∧ Below w.heap.size w w' := fun w =>
    Unpack_any [.plain [97], .back 1 7] [97, 97, 97, 97, 97, 97, 97, 97] w Lz.aaa_tells (by decide) (by decide)
  have H1 := Lib.hid h1; clear h1
  have H2 := Lib.hid h2; clear h2
  go_enter Try.func29, Try.ntmps29
  go_wp2_with fail
  refine (H1.out _).mono ?_
  rintro e w1 ⟨rfl, hb1⟩
  go_wp2_with fail
  refine (H2.out _).mono ?_
  rintro e w2 ⟨rfl, hb2⟩
  go_wp2_with fail
  go_ret
  exact ⟨rfl, hb1.trans (hb2.mono hb1.size)⟩
set_option maxRecDepth 100000 in
theorem LzBack_walk (s : ByteArray) (hs : s.size ≤ 140737488351232) (w : World) :
    Calls Try.prog 7 #[.string s] w fun e w' => e = .returned (.bool true) ∧ Below w.heap.size w w' := by
  by_cases h : 2000 < s.size
  · have hd : decide ((2000 : Int) < (s.size : Int)) = true := by rw [decide_eq_true_eq]; omega
    go_enter Try.func7, Try.ntmps7
    go_wp2_with fail
    refine (packed_any _).mono ?_
    rintro e w1 ⟨rfl, hb1⟩
    go_wp2_with fail
    go_ret
    exact ⟨rfl, hb1⟩
  · have hd : decide ((2000 : Int) < (s.size : Int)) = false := by rw [decide_eq_false_iff_not]; omega
    obtain ⟨l, hl⟩ : ∃ l : List UInt8, s = bstr l := ⟨_, eq_bstr s⟩
    subst hl
    rw [bstr_size] at h hd hs
    have hP := fun w => Pack_any l w (by omega)
    have HP := Lib.hid hP; clear hP
    go_enter Try.func7, Try.ntmps7
    go_wp2_with fail
    refine (packed_any _).mono ?_
    rintro e w1 ⟨rfl, hb1⟩
    go_wp2_with fail
    refine (HP.out _).mono ?_
    intro e w2 h2
    obtain ⟨toks, pl, hr, rfl, hb2⟩ := h2
    have hdone := hr.at.done
    have hU := fun w => Unpack_any _ l w hdone.1 (by omega) (by have := hdone.2; omega)
    have hlen := hdone.2
    clear hdone hr
    have HU := Lib.hid hU; clear hU
    generalize Lz.bytes (Lz.flushed toks pl) = by_ at *
    have hli : (by_.length : Int) ≤ (l.length : Int) + ((l.length : Int) + 3) / 4 := by omega
    go_wp2_with fail
    refine (HU.out _).mono ?_
    rintro e w3 ⟨rfl, hb3⟩
    have hq : ((bstr l).toList == (bstr l).toList) = true := by simp
    go_wp2_with fail
    go_ret
    exact ⟨rfl, hb1.trans ((hb2.trans (hb3.mono hb2.size)).mono hb1.size)⟩
end Go.Proofs.Ytmmkbjinkdgdbaa
