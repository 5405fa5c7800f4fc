/- Contracts: keys.Motion, Parse at a bare command, the fact keyed. (Of KeysM and KeysI, for seats that lack the laws' own decimal.) -/
import Derived.Test.YtenhblpegobbjaaKeysH
import Derived.Test.YtenhblpegobbjaaInfo
namespace Go.Proofs.Ytenhblpegobbjaa
open Go.RowKit
set_option linter.unusedVariables false
set_option linter.unusedSimpArgs false
set_option maxRecDepth 100000 in
theorem Motion_any (reg n move : Nat) (op : UInt8) (arg : ByteArray) (w : World) (hm : move < 256) :
    Calls Try.prog 25 #[.agg (cmd5 reg n op.toNat move arg).toArray] w fun e w' => e = .returned (.bool (decide (move = 0) && Keys.goes op)) ∧ Below w.heap.size w w' := by
  have h1 := fun w => has_any ⟨#[104, 108, 106, 107, 48, 36, 103, 71, 119, 98, 110, 78, 91, 93]⟩ op w
  have h2 := fun w => has_any ⟨#[39, 102]⟩ op w
  have hg : Keys.goes op = ((⟨#[104, 108, 106, 107, 48, 36, 103, 71, 119, 98, 110, 78, 91, 93]⟩ : ByteArray).data.toList.contains op || (⟨#[39, 102]⟩ : ByteArray).data.toList.contains op) := rfl
  generalize (⟨#[104, 108, 106, 107, 48, 36, 103, 71, 119, 98, 110, 78, 91, 93]⟩ : ByteArray).data.toList.contains op = x at *
  generalize (⟨#[39, 102]⟩ : ByteArray).data.toList.contains op = y at *
  rw [hg]
  clear hg
  have H1 := Lib.hid h1; clear h1
  have H2 := Lib.hid h2; clear h2
  change Calls Try.prog 25 #[.agg #[.int .u8 (reg : Int), .int .i64 (n : Int), .int .u8 (op.toNat : Int), .int .u8 (move : Int), .string arg]] w _
  by_cases h0 : move = 0
  · subst h0
    cases x
    · go_enter Try.func25, Try.ntmps25
      go_wp2_with fail
      refine (H1.out _).mono ?_
      rintro e w1 ⟨rfl, rfl⟩
      go_wp2_with fail
      refine (H2.out _).mono ?_
      rintro e w1 ⟨rfl, rfl⟩
      go_wp2_with fail
      go_ret
      exact ⟨rfl, (Below.refl _ w).alloc (Nat.le_refl _) _⟩
    · go_enter Try.func25, Try.ntmps25
      go_wp2_with fail
      refine (H1.out _).mono ?_
      rintro e w1 ⟨rfl, rfl⟩
      go_wp2_with fail
      go_ret
      exact ⟨rfl, (Below.refl _ w).alloc (Nat.le_refl _) _⟩
  · have h0' : ((move : Int) == 0) = false := by rw [beq_eq_false_iff_ne]; omega
    have h0d : decide (move = 0) = false := by simp [h0]
    rw [h0d]
    clear h0d h0
    go_enter Try.func25, Try.ntmps25
    go_wp2_with fail
    go_ret
    exact ⟨rfl, (Below.refl _ w).alloc (Nat.le_refl _) _⟩
/-- Parse at a text whose command has no argument -/
theorem Parse_bare (l : List UInt8) (w : World) (hl : l.length ≤ 1000) (reg n op move what : Nat) (rest : List UInt8) (u : Nat) (hp : Keys.parse l = (⟨reg, n, op, move, []⟩, rest, what)) (hu : u = l.length - rest.length) :
    Calls Try.prog 24 #[.string (bstr l)] w fun e w' => e = .returned (.tuple #[.agg #[.int .u8 (reg : Int), .int .i64 (n : Int), .int .u8 (op : Int), .int .u8 (move : Int), .string ⟨#[]⟩], .int .i64 (u : Int), .int .i64 (what : Int)]) ∧ Below w.heap.size w w' := by
  refine (Parse_any (bstr l) w (by rw [bstr_size]; exact hl)).mono ?_
  rintro e w' ⟨arg, ha, he, hb⟩
  rw [bstr_data, hp] at ha he
  simp only at ha he
  obtain rfl : arg = ⟨#[]⟩ := ByteArray.ext (Array.ext' ha)
  rw [bstr_size] at he
  refine ⟨?_, hb⟩
  rw [he, hu]
  rfl
set_option maxRecDepth 100000 in
theorem keyed_any (w : World) : Calls Try.prog 23 #[] w fun e w' => e = .returned (.bool true) ∧ Below w.heap.size w w' := by
  have h := fun w => Parse_bare [34, 97, 51, 100, 50, 119, 120] w (by decide) 97 6 100 119 1 [120] 6 (by decide) rfl
  have H := Lib.hid h; clear h
  go_enter Try.func23, Try.ntmps23
  go_wp2_with fail
  refine (H.out _).mono ?_
  rintro e w1 ⟨rfl, hb1⟩
  go_wp2_with fail
  go_ret
  exact ⟨rfl, hb1.alloc hb1.size _⟩
end Go.Proofs.Ytenhblpegobbjaa
