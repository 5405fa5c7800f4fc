/- Contract of the laws' own helper: gone. -/
import Derived.Test.YtenhblpegobbjaaMotionA
import Derived.Test.YtenhblpegobbjaaShelf
namespace Go.Proofs.Ytenhblpegobbjaa
open Go.RowKit
set_option linter.unusedVariables false
set_option linter.unusedSimpArgs false
set_option maxRecDepth 100000 in
theorem Span_dd (T : ByteArray) (hT : T.size = 80) (w : World) :
    Calls Try.prog 27 #[plVal T 18 none 0 0 none none 0 0, .agg #[.int .u8 0, .int .i64 0, .int .u8 100, .int .u8 100, .string ByteArray.empty]] w fun e w' =>
      e = .returned (.tuple #[.agg #[.int .i64 16, .int .i64 32], .nilIface]) ∧ Below w.heap.size w w' := by
  have hT' : ((T.size : Nat) : Int) = 80 := by omega
  have HT := Lib.hid hT; clear hT
  have hmx : max (0 : Int) 1 = 1 := by decide
  have hmn : min (32 : Int) 80 = 32 := by decide
  go_enter Try.func27, Try.ntmps27
  go_wp2_with fail
  refine bodyPost_ret (v := .tuple #[.agg #[.int .i64 16, .int .i64 32], .nilIface]) (by simp [results, Try.results27, go_sem]) rfl ⟨rfl, ?_⟩
  have e1 : ∀ a b : Nat, a ≤ a + b := fun a b => Nat.le_add_right a b
  repeat (first
    | exact Below.refl _ _
    | (refine Below.alloc ?_ ?_ _; rotate_left; · (first | (simp; done) | (simp; omega)))
    | (refine Below.setCell ?_ ?_ _; rotate_left; · (first | (simp; done) | (simp; omega))))
/-- the place in its box stays -/
def PlAt (w : World) (g : Nat) (s : ByteArray) (a : Int) : Prop :=
  w.cell? ⟨g, 0, none⟩ = some (.string s) ∧ w.cell? ⟨g, 1, none⟩ = some (.int .i64 a) ∧ w.cell? ⟨g, 2, none⟩ = some (.slice none 0 0) ∧ w.cell? ⟨g, 3, none⟩ = some (.map none) ∧ w.cell? ⟨g, 4, none⟩ = some (.slice none 0 0)
theorem PlAt.below {B : Nat} {w w' : World} {g : Nat} {s : ByteArray} {a : Int} (h : PlAt w g s a) (hb : Below B w w') (hg : g < B) : PlAt w' g s a :=
  ⟨(hb.cell (p := ⟨g, 0, none⟩) hg).trans h.1, (hb.cell (p := ⟨g, 1, none⟩) hg).trans h.2.1, (hb.cell (p := ⟨g, 2, none⟩) hg).trans h.2.2.1, (hb.cell (p := ⟨g, 3, none⟩) hg).trans h.2.2.2.1, (hb.cell (p := ⟨g, 4, none⟩) hg).trans h.2.2.2.2⟩
theorem PlAt.new (w : World) (e : TypeId) (s : ByteArray) (a : Int) : PlAt (w.alloc (.cells #[.string s, .int .i64 a, .slice none 0 0, .map none, .slice none 0 0] e)) w.heap.size s a := by
  have h := RowAt.new w e #[.string s, .int .i64 a, .slice none 0 0, .map none, .slice none 0 0]
  exact ⟨h.cell0 0 (by simp), h.cell0 1 (by simp), h.cell0 2 (by simp), h.cell0 3 (by simp), h.cell0 4 (by simp)⟩
theorem rep_size : (bstr (Lib.repeatL [97, 98, 99, 100] 20)).size = 80 := by decide +kernel
theorem bnd_24 : bnd 80 (18 - 18 % 4 + 4 * 2) = 24 := by decide +kernel
set_option maxRecDepth 100000 in
set_option maxHeartbeats 1000000 in
theorem gone_any (w : World) : Calls Try.prog 22 #[] w fun e w' => e = .returned (.bool true) ∧ Below w.heap.size w w' := by
  have hrep := fun w => Try.strings_Repeat (bstr [97, 98, 99, 100]) 20 w (by decide) (by decide)
  have hsz := rep_size
  have hd : (bstr [97, 98, 99, 100]).data.toList = [97, 98, 99, 100] := rfl
  rw [hd] at hrep
  have hb : (⟨(Lib.repeatL [97, 98, 99, 100] 20).toArray⟩ : ByteArray) = bstr (Lib.repeatL [97, 98, 99, 100] 20) := rfl
  rw [hb] at hrep
  have HREP := Lib.hid hrep; clear hrep hd hb
  generalize bstr (Lib.repeatL [97, 98, 99, 100] 20) = T at *
  have hw2 := fun w => Go_w T 18 2 ByteArray.empty none 0 0 none none 0 0 w (by omega) (by decide) (by decide) (by decide) (by decide)
  have hk1 := fun w => Go_k_yes T 18 1 ByteArray.empty none 0 0 none none 0 0 w (by omega) (by decide) (by decide) (by decide) (by decide) ⟨by decide, by omega⟩
  have hsp := fun w => Span_dd T hsz w
  rw [hsz] at hw2
  have e24 : (.int .i64 (bnd 80 (18 - 18 % 4 + 4 * 2)) : Value) = .int .i64 24 := by rw [bnd_24]
  rw [e24] at hw2
  have HW2 := Lib.hid hw2; clear hw2
  have HK1 := Lib.hid hk1; clear hk1
  have HSP := Lib.hid hsp; clear hsp hsz e24
  go_enter Try.func22, Try.ntmps22
  go_wp2_with fail
  refine (HREP.out _).mono ?_
  rintro e w1 ⟨rfl, hb1⟩
  go_wp2_with fail
  refine (HW2.out _).mono ?_
  rintro e w2 ⟨rfl, hb2⟩
  have hbx := (hb1.alloc hb1.size (.cells #[.string T, .int .i64 18, .slice none 0 0, .map none, .slice none 0 0] 49))
  have hp2 := (PlAt.new w1 49 T 18).below hb2 (by simp)
  have hg1 : w1.heap.size < w2.heap.size := by have := hb2.size; simp at this; omega
  replace hbx := hbx.trans (hb2.mono hbx.size)
  clear hb1 hb2
  generalize w1.heap.size = g at *
  obtain ⟨c0, c1, c2, c3, c4⟩ := hp2
  go_wp2_with fail
  refine (HK1.out _).mono ?_
  rintro e w3 ⟨rfl, hb3⟩
  have hp3 := (show PlAt w2 g T 18 from ⟨c0, c1, c2, c3, c4⟩).below hb3 hg1
  replace hbx := hbx.trans (hb3.mono hbx.size)
  clear c0 c1 c2 c3 c4 hb3
  obtain ⟨c0, c1, c2, c3, c4⟩ := hp3
  go_wp2_with fail
  refine (HSP.out _).mono ?_
  rintro e w4 ⟨rfl, hb4⟩
  replace hbx := hbx.trans (hb4.mono hbx.size)
  clear c0 c1 c2 c3 c4 hb4
  go_wp2_with fail
  go_ret
  exact ⟨rfl, hbx.alloc hbx.size _⟩
end Go.Proofs.Ytenhblpegobbjaa
