/- Contracts of show.Scroll; helpers for show.Lines. -/
import Derived.Test.YtnmbakibiaedhaaDoorPlainShow
import Derived.Test.YtnmbakibiaedhaaDoorShownA
import Derived.Test.YtnmbakibiaedhaaDoorDigitsB
import Derived.Test.YtnmbakibiaedhaaDoorBuilder
import Derived.Test.YtnmbakibiaedhaaDoorShelfSh
namespace Go.Proofs.YtnmbakibiaedhaaDoor
open Go.RowKit
set_option linter.unusedVariables false
set_option linter.unusedSimpArgs false
theorem Bd.string (B b : Nat) (l : List UInt8) (w : World) (h : IsB B b l w) (hBw : B ≤ w.heap.size) :
    Calls Tryd.prog 55 #[.pointer (some ⟨b, 0, none⟩)] w fun e w' => e = .returned (.string (bstr l)) ∧ Below B w w' := Tryd.Builder_String_any B b l w h hBw
theorem Print16 (n : Nat) (w : World) (hn : n ≤ 100000) : Calls Tryd.prog 41 #[.int .u64 (n : Nat), .int .i64 16, .int .i64 8] w fun e w' => e = .returned (.tuple #[.string (bstr (Digits.ds 16 n 8)), .nilIface]) ∧ Below w.heap.size w w' := by
  refine (Print_any n 16 8 w (by omega) (by decide) (by decide) (by decide)).mono ?_
  rintro e w' ⟨⟨J, hJ, he⟩, hb⟩
  have h8 : Digits.Wide 16 n (max 8 1) 8 := ⟨by decide, by
    have : (4294967296 : Nat) = 16 ^ 8 := by decide
    omega, fun k hk _ => by omega⟩
  rw [hJ.unique h8] at he
  exact ⟨he, hb⟩
set_option maxRecDepth 100000 in
theorem Scroll_any (top rows at_ : Nat) (w : World) (h1 : 1 ≤ rows) (h2 : rows ≤ 16) (ht : top ≤ 100000) (ha : at_ ≤ 100000) :
    Calls Tryd.prog 32 #[.int .i64 (top : Nat), .int .i64 (rows : Nat), .int .i64 (at_ : Nat)] w fun e w' => e = .returned (.tuple #[.int .i64 (Sw.scr top rows at_ : Nat), .nilIface]) ∧ w = w' := by
  have d1 : decide ((rows : Int) < 1) = false := decide_eq_false (by omega)
  have d2 : decide ((16 : Int) < (rows : Int)) = false := decide_eq_false (by omega)
  have d3 : decide ((top : Int) < 0) = false := decide_eq_false (by omega)
  have d4 : decide ((at_ : Int) < 0) = false := decide_eq_false (by omega)
  obtain ⟨r, hr⟩ : ∃ r, r = at_ / 16 := ⟨_, rfl⟩
  have hri : (at_ : Int) / 16 = (r : Int) := by omega
  have hs : Sw.scr top rows at_ = if r < top then r else if rows ≤ r - top then r - rows + 1 else top := by rw [hr]; rfl
  rw [hs]
  clear hs hr
  by_cases hlt : r < top
  · rw [if_pos hlt]
    have q1 : decide ((r : Int) < (top : Int)) = true := decide_eq_true (by omega)
    have q1n : decide (r < top) = true := decide_eq_true hlt
    go_enter Tryd.func32, Tryd.ntmps32
    go_wp2_with fail
    go_ret2
    exact ⟨rfl, rfl⟩
  · rw [if_neg hlt]
    have q1 : decide ((r : Int) < (top : Int)) = false := decide_eq_false (by omega)
    obtain ⟨d, hd⟩ : ∃ d, d = r - top := ⟨_, rfl⟩
    have hdi : (r : Int) - (top : Int) = (d : Int) := by omega
    rw [← hd]
    by_cases hge : rows ≤ d
    · rw [if_pos hge]
      have e1 : ((r - rows + 1 : Nat) : Int) = (r : Int) - (rows : Int) + 1 := by omega
      have q2 : decide ((rows : Int) ≤ (d : Int)) = true := decide_eq_true (by omega)
      rw [e1]
      clear hlt e1 hd
      go_enter Tryd.func32, Tryd.ntmps32
      go_wp2_with fail
      go_ret2
      exact ⟨rfl, rfl⟩
    · rw [if_neg hge]
      have q2 : decide ((rows : Int) ≤ (d : Int)) = false := decide_eq_false (by omega)
      clear hlt hd
      go_enter Tryd.func32, Tryd.ntmps32
      go_wp2_with fail
      go_ret2
      exact ⟨rfl, rfl⟩
end Go.Proofs.YtnmbakibiaedhaaDoor
