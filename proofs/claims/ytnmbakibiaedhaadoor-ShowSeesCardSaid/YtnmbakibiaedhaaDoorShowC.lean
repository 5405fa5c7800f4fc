/- Contracts of show.Status at one view, and of the law's fact. -/
import Derived.Test.YtnmbakibiaedhaaDoorShowB
import Derived.Test.YtnmbakibiaedhaaDoorPick
namespace Go.Proofs.YtnmbakibiaedhaaDoor
open Go.RowKit
set_option linter.unusedVariables false
set_option linter.unusedSimpArgs false
set_option maxRecDepth 100000 in
set_option maxHeartbeats 1000000 in
theorem Status_hi (w : World) :
    Calls Tryd.prog 72 #[.agg #[.string { data := #[72, 105] }, .int .i64 1, .bool false, .int .i64 0, .string { data := #[] }, .int .i64 0, .int .i64 0, .int .i64 0]] w fun e w' => e = .returned (.string { data := #[110, 111, 114, 109, 97, 108, 32, 49, 47, 50] }) ∧ Below w.heap.size w w' := by
  have h1 := fun w => Tryd.strconv_Itoa_small 1 (by decide) w
  have h2 := fun w => Tryd.strconv_Itoa_small 2 (by decide) w
  have e1 : (⟨(Lib.decDigits 1).toArray⟩ : ByteArray) = { data := #[49] }   := by decide +kernel
  have e2 : (⟨(Lib.decDigits 2).toArray⟩ : ByteArray) = { data := #[50] } := by decide +kernel
  rw [e1] at h1
  rw [e2] at h2
  have H1 := Lib.hid h1; have H2 := Lib.hid h2
  clear h1 h2 e1 e2
  go_enter Tryd.func72, Tryd.ntmps72
  go_wp2_with fail
  refine (H1.out _).mono ?_
  rintro e w1 ⟨rfl, rfl⟩
  go_wp2_with fail
  refine (H2.out _).mono ?_
  rintro e w1 ⟨rfl, rfl⟩
  go_wp2_with fail
  go_ret
  exact ⟨rfl, ((Below.refl _ _).alloc (Nat.le_refl _) _).alloc (by simp) _⟩
def hiA : ByteArray := { data := #[48, 48, 48, 48, 48, 48, 48, 48, 32, 52, 56, 62, 54, 57] ++ Array.replicate 42 32 ++ #[32, 72, 105] }
def hiR : ByteArray := { data := Array.replicate 42 32 }
theorem hiLines : strVals ((List.range 2).map fun k => Sw.line [72, 105] 1 (Sw.scr 0 2 1 + k)) = [.string hiA, .string { data := #[126] }] := by kernel_rfl
theorem rep14 : (⟨(Lib.repeatL ([32, 32, 32] : List UInt8) 14).toArray⟩ : ByteArray) = hiR := by kernel_rfl
theorem hiSum : ({ data := #[48, 48, 48, 48, 48, 48, 48, 48, 32, 52, 56, 62, 54, 57] } : ByteArray) ++ hiR ++ { data := #[32, 72, 105] } = hiA := by kernel_rfl
theorem hiSize : hiR.size = 42 := by kernel_rfl
theorem hiSize2 : (({ data := #[48, 48, 48, 48, 48, 48, 48, 48, 32, 52, 56, 62, 54, 57] } : ByteArray) ++ hiR).size = 56 := by kernel_rfl
set_option maxRecDepth 100000 in
set_option maxHeartbeats 2000000 in
theorem shown_any (w : World) : Calls Tryd.prog 31 #[] w fun e w' => e = .returned (.bool true) ∧ Below w.heap.size w w' := by
  have h1 : ∀ w, Calls Tryd.prog 33 #[.agg #[.string { data := #[72, 105] }, .int .i64 1, .bool false, .int .i64 0, .string { data := #[] }, .int .i64 0, .int .i64 0, .int .i64 0], .int .i64 0, .int .i64 2] w fun e w' =>
      ∃ a cap, e = .returned (.tuple #[.slice a 2 cap, .nilIface]) ∧ Owns w' (w.heap.size + 1) 9 1 a 2 cap (strVals ((List.range 2).map fun k => Sw.line [72, 105] 1 (Sw.scr 0 2 1 + k))) ∧ Below w.heap.size w w' :=
    fun w => Lines_any [72, 105] 1 0 2 false 0 ByteArray.empty 0 0 0 w (by simp) (by omega) (by omega) (by omega) (by omega)
  rw [hiLines] at h1
  have h2 := fun w => Status_hi w
  have h3 := fun w => Tryd.strings_Repeat { data := #[32, 32, 32] } 14 w (by omega) (by simp [ByteArray.size])
  rw [show ({ data := #[32, 32, 32] } : ByteArray).data.toList = [32, 32, 32] from rfl, rep14] at h3
  have H1 := Lib.hid h1; have H2 := Lib.hid h2; have H3 := Lib.hid h3
  have hs := hiSum; have hz := hiSize; have hz2 := hiSize2
  generalize hiA = XA at *
  generalize hiR = XR at *
  clear h1 h2 h3
  go_enter Tryd.func31, Tryd.ntmps31
  go_wp2_with fail
  refine (H1.out _).mono ?_
  rintro e w1 ⟨a, cap, rfl, hown, hb1⟩
  cases a with
  | none => exact absurd (Owns.of_none hown).1 (by decide)
  | some y =>
  obtain ⟨hy, _, _, _, hr⟩ := hown.row
  obtain ⟨g, hg⟩ : ∃ g, g = y.block := ⟨_, rfl⟩
  rw [← hg] at hy hr
  subst hy
  have c0 := hr.cell0 0 (by simp); have c1 := hr.cell0 1 (by simp)
  simp only [List.getElem_cons_zero, List.getElem_cons_succ] at c0 c1
  have hlt := hr.lt
  have hS0 : w1.cell? ⟨g, 0, none⟩ = some (.string XA) ∧ w1.cell? ⟨g, 1, none⟩ = some (.string { data := #[126] }) ∧ Below w1.heap.size w1 w1 := ⟨c0, c1, Below.refl _ _⟩
  have hcall : ∀ V V' : World, (V.cell? ⟨g, 0, none⟩ = some (.string XA) ∧ V.cell? ⟨g, 1, none⟩ = some (.string { data := #[126] }) ∧ Below w1.heap.size w1 V) → Below V.heap.size V V' → (V'.cell? ⟨g, 0, none⟩ = some (.string XA) ∧ V'.cell? ⟨g, 1, none⟩ = some (.string { data := #[126] }) ∧ Below w1.heap.size w1 V') :=
    fun V V' h hb => ⟨(hb.cell (p := ⟨g, 0, none⟩) (Nat.lt_of_lt_of_le hlt h.2.2.size)).trans h.1, (hb.cell (p := ⟨g, 1, none⟩) (Nat.lt_of_lt_of_le hlt h.2.2.size)).trans h.2.1, h.2.2.trans (hb.mono h.2.2.size)⟩
  have hrep : ∀ V : World, (V.cell? ⟨g, 0, none⟩ = some (.string XA) ∧ V.cell? ⟨g, 1, none⟩ = some (.string { data := #[126] }) ∧ Below w1.heap.size w1 V) → Calls Tryd.prog 26 #[.string { data := #[32, 32, 32] }, .int .i64 14] V fun e V' => e = .returned (.string XR) ∧ (V'.cell? ⟨g, 0, none⟩ = some (.string XA) ∧ V'.cell? ⟨g, 1, none⟩ = some (.string { data := #[126] }) ∧ Below w1.heap.size w1 V') :=
    fun V h => (H3.out V).mono fun e V' ⟨h1, h2⟩ => ⟨h1, hcall V V' h h2⟩
  have hsta : ∀ V : World, (V.cell? ⟨g, 0, none⟩ = some (.string XA) ∧ V.cell? ⟨g, 1, none⟩ = some (.string { data := #[126] }) ∧ Below w1.heap.size w1 V) → Calls Tryd.prog 72 #[.agg #[.string { data := #[72, 105] }, .int .i64 1, .bool false, .int .i64 0, .string { data := #[] }, .int .i64 0, .int .i64 0, .int .i64 0]] V fun e V' => e = .returned (.string { data := #[110, 111, 114, 109, 97, 108, 32, 49, 47, 50] }) ∧ (V'.cell? ⟨g, 0, none⟩ = some (.string XA) ∧ V'.cell? ⟨g, 1, none⟩ = some (.string { data := #[126] }) ∧ Below w1.heap.size w1 V') :=
    fun V h => (H2.out V).mono fun e V' ⟨h1, h2⟩ => ⟨h1, hcall V V' h h2⟩
  have HREP := Lib.hid hrep; have HSTA := Lib.hid hsta; have HB1 := Lib.hid hb1; have HS0 := Lib.hid hS0
  clear hcall hrep hsta hown hr c0 c1 hb1 hg hlt
  go_wp2_with fail
  go_region_held3 (fun V => V.cell? ⟨g, 0, none⟩ = some (.string XA) ∧ V.cell? ⟨g, 1, none⟩ = some (.string { data := #[126] }) ∧ Below w1.heap.size w1 V)
    (first
      | exact HS0.out
      | exact ⟨HS0.out.1, HS0.out.2.1, HS0.out.2.2.drew⟩
      | assumption
      | exact ⟨hS9.1, hS9.2.1, hS9.2.2.drew⟩)
    (first
      | (go_at_call 26; (with_reducible refine (HREP.out _ ?_).mono ?_); (next => (first | assumption | exact HS0.out | exact ⟨HS0.out.1, HS0.out.2.1, HS0.out.2.2.drew⟩)); (rintro e w9 ⟨rfl, hS9⟩))
      | (go_at_call 72; (with_reducible refine (HSTA.out _ ?_).mono ?_); (next => (first | assumption | exact HS0.out | exact ⟨HS0.out.1, HS0.out.2.1, HS0.out.2.2.drew⟩)); (rintro e w9 ⟨rfl, hS9⟩)))
  all_goals
    go_wp2_with fail
    go_ret
    exact ⟨rfl, HB1.out.trans (hS9.2.2.mono HB1.out.size)⟩
end Go.Proofs.YtnmbakibiaedhaaDoor
