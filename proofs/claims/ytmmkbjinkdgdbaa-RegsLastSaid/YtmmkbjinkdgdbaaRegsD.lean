/- The fact kept. -/
import Derived.Test.YtmmkbjinkdgdbaaRegsC
namespace Go.Proofs.Ytmmkbjinkdgdbaa
open Go.RowKit Go.Maps
set_option linter.unusedVariables false
set_option linter.unusedSimpArgs false
/-- the empty registers' cells -/
theorem RegsAt.start (w : World) : RegsAt (w.alloc (.cells #[.map none, .string ⟨#[]⟩, .string ⟨#[]⟩, .string ⟨#[]⟩, .string ⟨#[]⟩, .string ⟨#[]⟩, .string ⟨#[]⟩, .string ⟨#[]⟩, .string ⟨#[]⟩, .string ⟨#[]⟩] 30)) w.heap.size w.heap.size 0 (fun _ => []) (List.replicate 9 ⟨#[]⟩) :=
  ⟨rfl, Nat.le_refl _, .map none, Whole.new w _ _, .inl ⟨rfl, rfl⟩⟩
set_option maxRecDepth 100000 in
set_option maxHeartbeats 1000000 in
theorem kept_any (w : World) : Calls Try.prog 15 #[] w fun e w' => e = .returned (.bool true) ∧ Below w.heap.size w w' := by
  have h0 := RegsAt.start w
  have H0 := Lib.hid h0; clear h0
  have hb0 := (Below.refl w.heap.size w).alloc (Nat.le_refl _) (.cells #[.map none, .string ⟨#[]⟩, .string ⟨#[]⟩, .string ⟨#[]⟩, .string ⟨#[]⟩, .string ⟨#[]⟩, .string ⟨#[]⟩, .string ⟨#[]⟩, .string ⟨#[]⟩, .string ⟨#[]⟩] 30)
  have HB0 := Lib.hid hb0; clear hb0
  go_enter Try.func15, Try.ntmps15
  go_wp2_with fail
  generalize w.alloc (.cells #[.map none, .string ⟨#[]⟩, .string ⟨#[]⟩, .string ⟨#[]⟩, .string ⟨#[]⟩, .string ⟨#[]⟩, .string ⟨#[]⟩, .string ⟨#[]⟩, .string ⟨#[]⟩, .string ⟨#[]⟩] 30) = w0 at *
  generalize hBe : w.heap.size = B at *
  have HBe := Lib.hid hBe; clear hBe
  have hBz0 : B ≤ w0.heap.size := Nat.le_of_lt (by obtain ⟨_, _, _, h, _⟩ := H0.out; exact h.row.lt)
  have hC : Calls Try.prog 18 #[.pointer (some ⟨B, 0, none⟩), .int .u8 97, .string ⟨#[120]⟩] w0 fun e w' => e = .returned .nilIface ∧ RegsAt w' B B 2 (upd (upd (fun _ => []) 97 [120]) 34 [120]) (bstr [120] :: (List.replicate 9 ⟨#[]⟩).take 8) ∧ Below B w0 w' :=
    Cut_ok B B 0 _ _ 97 [120] w0 H0.out (by decide) (by decide) hBz0 (by decide) (by decide)
  refine hC.mono ?_
  clear hC
  rintro e w1 ⟨rfl, h1, hb1⟩
  have hBz1 := Nat.le_trans hBz0 hb1.size
  have hP : Calls Try.prog 21 #[.pointer (some ⟨B, 0, none⟩), .int .u8 65, .string ⟨#[121]⟩] w1 fun e w' => e = .returned .nilIface ∧ RegsAt w' B B 4 (upd (upd (upd (upd (fun _ => []) 97 [120]) 34 [120]) 97 [120, 121]) 34 [120, 121]) (bstr [120] :: (List.replicate 9 ⟨#[]⟩).take 8) ∧ Below B w1 w' :=
    Put_ok B B 2 _ _ 65 [121] w1 h1 (by decide) (by decide) hBz1 (by decide) (by decide)
  have HP := Lib.hid hP; clear hP h1
  go_wp2_with fail
  refine HP.out.mono ?_
  rintro e w2 ⟨rfl, h2, hb2⟩
  have g1 : Calls Try.prog 19 #[.pointer (some ⟨B, 0, none⟩), .int .u8 97] w2 fun e w' => e = .returned (.tuple #[.string ⟨#[120, 121]⟩, .nilIface]) ∧ w2 = w' :=
    Get_name B B 4 _ _ 97 w2 h2 (by decide) (by decide) (.inr (by decide))
  have g3 : Calls Try.prog 19 #[.pointer (some ⟨B, 0, none⟩), .int .u8 34] w2 fun e w' => e = .returned (.tuple #[.string ⟨#[120, 121]⟩, .nilIface]) ∧ w2 = w' :=
    Get_name B B 4 _ _ 34 w2 h2 (by decide) (by decide) (.inl (by decide))
  have g2 : Calls Try.prog 19 #[.pointer (some ⟨B, 0, none⟩), .int .u8 49] w2 fun e w' => e = .returned (.tuple #[.string ⟨#[120]⟩, .nilIface]) ∧ w2 = w' :=
    Get_cut B B 4 _ _ 49 w2 h2 (by decide) (by decide)
  have G1 := Lib.hid g1; clear g1
  have G2 := Lib.hid g2; clear g2
  have G3 := Lib.hid g3; clear g3
  clear h2
  go_wp2_with fail
  refine G1.out.mono ?_
  rintro e w3 ⟨rfl, rfl⟩
  go_wp2_with fail
  refine G2.out.mono ?_
  rintro e w3 ⟨rfl, rfl⟩
  go_wp2_with fail
  refine G3.out.mono ?_
  rintro e w3 ⟨rfl, rfl⟩
  go_wp2_with fail
  go_ret
  exact ⟨rfl, by rw [HBe.out]; exact (HB0.out.trans hb1).trans hb2⟩
end Go.Proofs.Ytmmkbjinkdgdbaa
