/- The law SpansLaws, of any lengths. -/
import Derived.Test.YtnldobfafaajjaaSpansLaws
namespace Go.Proofs.Ytnldobfafaajjaa
open Go.RowKit
set_option linter.unusedVariables false
set_option linter.unusedSimpArgs false
set_option maxRecDepth 100000 in
set_option maxHeartbeats 2000000 in
theorem SpansLaws_walk (w : World) (xa : Option Addr) (na ca : Nat) (la : List Spans.Sp) (xb : Option Addr) (nb cb : Nat) (lb : List Spans.Sp) (xc : Option Addr) (nc cc : Nat) (lc : List Spans.Sp) (n_ : Int) (hla : ReadsSp w w.heap.size xa na ca la) (hlb : ReadsSp w w.heap.size xb nb cb lb) (hlc : ReadsSp w w.heap.size xc nc cc lc) (h1 : -9223372036854775808 ≤ n_) (h2 : n_ ≤ 9223372036854775807) :
    Calls Try.prog 6 #[.slice xa na ca, .slice xb nb cb, .slice xc nc cc, .int .i64 n_] w fun e w' => e = .returned (.bool true) ∧ Below w.heap.size w w' := by
  by_cases h40 : na ≤ 40 ∧ nb ≤ 40 ∧ nc ≤ 40
  · exact SpansLaws_in xa xb xc na ca nb cb nc cc la lb lc n_ w hla hlb hlc h40
  clear hla hlb hlc
  have hb0 := (Below.refl w.heap.size w).alloc (Nat.le_refl _) (.cells #[.int .i64 n_] 3)
  have HB0 := Lib.hid hb0; clear hb0
  go_enter Try.func6, Try.ntmps6
  go_wp2_with fail
  refine (spanned_any _).mono ?_
  rintro e v1 ⟨rfl, hb⟩
  have HB := Lib.hid (HB0.out.trans (hb.mono HB0.out.size))
  clear hb HB0
  go_wp2_with fail
  refine (few_any xa na ca v1).mono ?_
  rintro e v2 ⟨rfl, rfl⟩
  by_cases k1 : na ≤ 40
  · rw [decide_eq_true k1]
    go_wp2_with fail
    refine (few_any xb nb cb v1).mono ?_
    rintro e v2 ⟨rfl, rfl⟩
    by_cases k2 : nb ≤ 40
    · rw [decide_eq_true k2]
      go_wp2_with fail
      refine (few_any xc nc cc v1).mono ?_
      rintro e v2 ⟨rfl, rfl⟩
      have k3 : ¬ nc ≤ 40 := fun h => h40 ⟨k1, k2, h⟩
      rw [decide_eq_false k3]
      clear h40
      go_wp2_with fail
      go_ret
      exact ⟨rfl, HB.out⟩
    · rw [decide_eq_false k2]
      clear h40
      go_wp2_with fail
      go_ret
      exact ⟨rfl, HB.out⟩
  · rw [decide_eq_false k1]
    clear h40
    go_wp2_with fail
    go_ret
    exact ⟨rfl, HB.out⟩
end Go.Proofs.Ytnldobfafaajjaa
