/- Contracts of package digits: Hex. -/
import Derived.Test.YtnmbakibiaedhaaDoorDigitsA
import Derived.Test.YtnmbakibiaedhaaDoorOwnStep
namespace Go.Proofs.YtnmbakibiaedhaaDoor
open Go.RowKit
set_option linter.unusedVariables false
set_option linter.unusedSimpArgs false
theorem bstr_at (l : List UInt8) (k : Nat) (h : k < (bstr l).size) : (bstr l)[k]'h = l.getD k 0 := by
  have hk : k < l.length := by rwa [bstr_size] at h
  rw [List.getD_eq_getElem?_getD, List.getElem?_eq_getElem hk]
  rfl
/-- 'make([]T, n, c)', elements of one cell: an owned slice -/
theorem wpList_makeC {P : Program} (w : World) {ops : Array Oper} {rest : List Oper} {o : Oper} {a : Act} {Q : Exit → Act → World → Prop} (hg : o.guard = none) (l c : Operand) (t : TypeId)
    (hop : o.op = Op.makeSlice t l c) (e : TypeId) (i : TypeInfo) (z : Value) (h1 : P.underlying t = some (.slice e)) (h2 : P.info? e = some i) (h3 : i.zero = some z) (h4 : i.size = 1) (h5 : z.cells = #[z])
    (kl kc : IntKind) (L C : Int) (n m : Nat) (hl : a.eval l = .int kl L) (hc : a.eval c = .int kc C) (hL : L = (n : Int)) (hC : C = (m : Int)) (hnm : n ≤ m) (b2 : i.bytes * m ≤ 281474976710656) (b3 : m ≤ maxLen) (B : Nat) (hB : B ≤ w.heap.size)
    (hK : ∀ w', Owns w' B e 1 (some ⟨w.heap.size, 0, none⟩) n m (List.replicate n z) → Below w.heap.size w w' → w.heap.size < w'.heap.size → wpList P ops Q rest (a.put o.dst (.slice (some ⟨w.heap.size, 0, none⟩) n m)) w') :
    wpList P ops Q (o :: rest) a w := by
  refine wpList_plain hg fun K hK' => ?_
  subst hL hC
  have h63' : (m : Int) ≤ 9223372036854775807 := by
    have h := b3
    simp [maxLen] at h
    omega
  have hb' : (i.bytes : Int) * (m : Int) ≤ 281474976710656 := by
    have h : ((i.bytes * m : Nat) : Int) ≤ 281474976710656 := by omega
    rwa [Int.natCast_mul] at h
  have hrun := run_make (P := P) w t e i z h1 h2 h3 kl kc n m (by omega) (by omega) hb' h63'
  simp only [Int.toNat_natCast, h4, Nat.mul_one] at hrun
  have hm : (madeCells z.cells m).toList = List.replicate m z := by rw [h5, toList_madeCells_one]
  have ho : Owns (w.alloc (.cells (madeCells z.cells m) e)) B e 1 (some ⟨w.heap.size, 0, none⟩) n m (List.replicate n z) :=
    Owns.of_row (n := n) (cap := m) (by simp) _ w.heap.size _ hB (heap_alloc_new w _) (by rw [← Array.length_toList, hm]; simp) hnm b3 (by rw [hm, List.take_replicate]; congr 1; omega)
  unfold Oper.wp
  simp only [execOp, hop, hl, hc, Sem.run_bind, hrun, Result.andThen_ok, Sem.run_pure]
  exact hK' _ _ (hK _ ho ((Below.refl _ _).alloc (Nat.le_refl _) _) (by simp))
namespace Digits
/-- a byte as two digits -/
def two (b : UInt8) : List UInt8 := [UInt8.ofNat (fig (b.toNat / 16)), UInt8.ofNat (fig (b.toNat % 16))]
def hex (l : List UInt8) : List UInt8 := l.flatMap two
theorem hex_length (l : List UInt8) : (hex l).length = 2 * l.length := by
  induction l with
  | nil => rfl
  | cons x l ih => simp only [hex, List.flatMap_cons, List.length_append, List.length_cons] at ih ⊢; rw [ih]; simp [two]; omega
theorem hex_append (l m : List UInt8) : hex (l ++ m) = hex l ++ hex m := by simp [hex]
theorem hex_snoc (l : List UInt8) (k : Nat) (h : k < l.length) : hex (l.take (k + 1)) = hex (l.take k) ++ two (l.getD k 0) := by
  rw [List.take_succ_eq_append_getElem h, hex_append, List.getD_eq_getElem?_getD, List.getElem?_eq_getElem h]
  simp [hex]
set_option maxRecDepth 100000 in
theorem fig_at8 (d : Nat) (h : d < 16) : ∀ w : World, (Instr.index 9 (.string ⟨#[48, 49, 50, 51, 52, 53, 54, 55, 56, 57, 97, 98, 99, 100, 101, 102]⟩) (.int .u8 (d : Nat))).run Tryd.prog w = .ok (.int .u8 (fig d : Nat)) w := by
  match d, h with
  | 0, _ => exact fun _ => by kernel_rfl
  | 1, _ => exact fun _ => by kernel_rfl
  | 2, _ => exact fun _ => by kernel_rfl
  | 3, _ => exact fun _ => by kernel_rfl
  | 4, _ => exact fun _ => by kernel_rfl
  | 5, _ => exact fun _ => by kernel_rfl
  | 6, _ => exact fun _ => by kernel_rfl
  | 7, _ => exact fun _ => by kernel_rfl
  | 8, _ => exact fun _ => by kernel_rfl
  | 9, _ => exact fun _ => by kernel_rfl
  | 10, _ => exact fun _ => by kernel_rfl
  | 11, _ => exact fun _ => by kernel_rfl
  | 12, _ => exact fun _ => by kernel_rfl
  | 13, _ => exact fun _ => by kernel_rfl
  | 14, _ => exact fun _ => by kernel_rfl
  | 15, _ => exact fun _ => by kernel_rfl
  | k + 16, h => omega
end Digits
set_option maxRecDepth 100000 in
set_option maxHeartbeats 1000000 in
theorem Hex_any (l : List UInt8) (w : World) (hl : l.length ≤ 100000) :
    Calls Tryd.prog 73 #[.string (bstr l)] w fun e w' => e = .returned (.string (bstr (Digits.hex l))) ∧ Below w.heap.size w w' := by
  obtain ⟨i0, hi, hz0, hz1, hz2⟩ := info_parts infoU8
  have hm2 : IntKind.i64.wrap (2 * (l.length : Int)) = ((2 * l.length : Nat) : Int) := by rw [IntWalk.i64_in _ ⟨by omega, by omega⟩]; simp
  obtain ⟨B, hB⟩ : ∃ B, B = w.heap.size := ⟨_, rfl⟩
  rw [← hB]
  have HB := Lib.hid hB; clear hB
  go_enter Tryd.func73, Tryd.ntmps73
  go_wp2_with (with_reducible refine wpList_makeC _ rfl _ _ 95 rfl 5 i0 (.int .u8 0) Tryd.underlying95 hi hz0 hz1 rfl .i64 .i64 0 _ 0 (2 * l.length) rfl rfl rfl rfl (Nat.zero_le _) (by rw [hz2]; omega) (by unfold maxLen; omega) B (by rw [HB.out]; exact Nat.le_refl _) ?_; intro w1 hown1 hb1 hs1)
  rw [← HB.out] at hown1 hb1 hs1 ⊢
  go_loopw [3, 11] (fun v3 v11 wr => ∃ (k g cap : Nat), k ≤ l.length ∧ v11 = .int .i64 k ∧ v3 = .slice (some ⟨g, 0, none⟩) (2 * k) cap ∧ Hid (Owns wr B 5 1 (some ⟨g, 0, none⟩) (2 * k) cap (bvals (Digits.hex (l.take k)))) ∧ Below B w wr) (fun _ v11 _ => l.length - (intOf v11).toNat)
  case atStart => exact ⟨0, B, 2 * l.length, by omega, rfl, rfl, Lib.hid hown1, hb1⟩
  case round =>
    clear hown1 hb1 hs1 hi hz0 hz1 hz2 hm2
    obtain ⟨k, g, cap, hk, rfl, rfl, HO, hbe⟩ := hrel
    have hbB : B ≤ wr.heap.size := by have := hbe.size; have := HB.out; omega
    by_cases hlt : k < l.length
    · have hsn := Digits.hex_snoc l k hlt
      have hbx : ∀ h : k < (bstr l).size, ((bstr l)[k]'h).toNat = (l.getD k 0).toNat := fun h => by rw [bstr_at]
      have hx8 : (l.getD k 0).toNat < 256 := UInt8.toNat_lt _
      have HSN := Lib.hid hsn; clear hsn
      unfold Digits.two at HSN
      have t1 := Digits.fig_toNat ((l.getD k 0).toNat / 16) (by omega)
      have t2 := Digits.fig_toNat ((l.getD k 0).toNat % 16) (by omega)
      generalize (l.getD k 0).toNat = x at *
      have f1 := Digits.fig_at8 (x / 16) (by omega)
      have f2 := Digits.fig_at8 (x % 16) (by omega)
      rw [← t1, show ((x / 16 : Nat) : Int) = (x : Int) / 16 from by simp] at f1
      rw [← t2, show ((x % 16 : Nat) : Int) = (x : Int) % 16 from by simp] at f2
      generalize UInt8.ofNat (Digits.fig (x / 16)) = c1 at *
      generalize UInt8.ofNat (Digits.fig (x % 16)) = c2 at *
      clear t1 t2
      have h15 := u8_and15 (x := (x : Int)) (by omega) (by omega)
      have hki : (k : Int) < (l.length : Int) := by omega
      have b0 : (0 : Int) ≤ (x : Int) / 16 := by omega
      have b1 : (0 : Int) ≤ (x : Int) % 16 := by omega
      have hs8 : IntKind.u8.wrap ((x : Int) / 16) = (x : Int) / 16 := by rw [IntKind.wrap_u8]; omega
      go_wp2_with fail
      have hcs : (2 * k + 2) * 1 ≤ 140737488355328 := by omega
      have hml : 2 * k + 2 ≤ maxLen := by unfold maxLen; omega
      have hbs2 : B ≤ (wr.alloc (.cells #[.int .u8 (c1.toNat : Int), .int .u8 (c2.toNat : Int)] 5)).drew.heap.size := by simp; omega
      go_region_held3 (fun _ => True) (trivial)
        ((refine step_pushN _ (by rfl) _ _ 95 (by rfl) B 5 (.int .u8 0) 1 1 Tryd.underlying95 infoU8 rfl (by decide) (some ⟨g, 0, none⟩) (2 * k) cap _ (by rfl) (HO.out.drew.alloc _) wr.heap.size 2 2 (by decide) [.int .u8 (c1.toNat : Int), .int .u8 (c2.toNat : Int)] (by rfl) (by simp [Value.oneCell']) (by rfl) (RowAt.new wr 5 #[.int .u8 (c1.toNat : Int), .int .u8 (c2.toNat : Int)]).drew hml hcs hbs2 ?_; intro a' cap' w' hown' hgrow hloc hex))
      all_goals
        obtain ⟨ga, rfl⟩ := hex
        have hk2 : 2 * k + 2 = 2 * (k + 1) := by omega
        have HK2 := Lib.hid hk2; clear hk2
        go_wp2_with fail
        go_roundw
        case rel =>
          refine ⟨k + 1, ga, cap', by omega, by go_num, by rw [HK2.out], ?_, ?_⟩
          · rw [HSN.out, ← HK2.out]
            exact Lib.hid (by simpa [bvals, bval] using hown')
          · exact below_blk ((hbe.alloc hbB _).drew) ((HO.out.alloc _).drew) (Nat.le_refl _) (by simp; omega) hgrow
        case measure => simp [intOf]; omega
    · obtain rfl : k = l.length := by omega
      have ho := HO.out
      rw [List.take_length] at ho
      obtain ⟨h1, h2, h3, h4, h5⟩ := ho.row
      have hlen := Digits.hex_length l
      generalize hL : Digits.hex l = L at *
      have HL := Lib.hid hL; clear hL
      have hstr := run_string_of 95 5 9 Tryd.underlying95 Tryd.underlying5 Tryd.underlying9 h5 (2 * l.length) cap hlen.symm
      have hd : decide ((l.length : Int) < (l.length : Int)) = false := by simp
      go_wp2_with fail
      go_ret
      exact ⟨ret_str (by rw [HL.out]), hbe⟩
end Go.Proofs.YtnmbakibiaedhaaDoor
