/- Contracts of package digits: Unhex. -/
import Derived.Test.YtnmbakibiaedhaaDoorDigitsB
import Derived.Test.YtnmbakibiaedhaaDoorErrTell
namespace Go.Proofs.YtnmbakibiaedhaaDoor
open Go.RowKit
set_option linter.unusedVariables false
set_option linter.unusedSimpArgs false
namespace Digits
/-- what digits, two each, with blanks between, are read as -/
inductive Reads : List UInt8 → List UInt8 → Prop where
  | nil : Reads [] []
  | blank {r o : List UInt8} : Reads r o → Reads (32 :: r) o
  | byte {c d : UInt8} {h k : Nat} {r o : List UInt8} : c ≠ 32 → Keys.dig c.toNat = (h : Int) → Keys.dig d.toNat = (k : Int) → Reads r o → Reads (c :: d :: r) (UInt8.ofNat (16 * h + k) :: o)
theorem dig_lt {c : UInt8} {h : Nat} (e : Keys.dig c.toNat = (h : Int)) : h < 16 := by
  unfold Keys.dig at e
  (repeat' split at e) <;> omega
theorem Reads.append {r o s u : List UInt8} (h : Reads r o) (g : Reads s u) : Reads (r ++ s) (o ++ u) := by
  induction h with
  | nil => exact g
  | blank _ ih => exact .blank ih
  | byte h1 h2 h3 _ ih => exact .byte h1 h2 h3 ih
theorem drop_at {L : List UInt8} {i : Nat} {c : UInt8} {r : List UInt8} (h : L.drop i = c :: r) : i < L.length ∧ L.getD i 0 = c ∧ L.drop (i + 1) = r := by
  have hi : i < L.length := by
    rcases Nat.lt_or_ge i L.length with hi | hi
    · exact hi
    · rw [List.drop_eq_nil_of_le hi] at h; cases h
  rw [List.drop_eq_getElem_cons hi] at h
  injection h with h1 h2
  exact ⟨hi, by rw [List.getD_eq_getElem?_getD, List.getElem?_eq_getElem hi]; exact h1, h2⟩
theorem or16 (h k : Nat) (h1 : h < 16) (h2 : k < 16) : bits .or .i64 ((h : Int) * 16) (k : Int) % 256 = (((UInt8.ofNat (16 * h + k)).toNat : Nat) : Int) := by
  have key : ∀ h : Fin 16, ∀ k : Fin 16, bits .or .i64 (((h : Nat) : Int) * 16) ((k : Nat) : Int) % 256 = (((UInt8.ofNat (16 * (h : Nat) + (k : Nat))).toNat : Nat) : Int) := by decide +kernel
  exact key ⟨h, h1⟩ ⟨k, h2⟩
end Digits
/-- how Unhex ends -/
def UnhexOut (w : World) (t out : List UInt8) (e : Ending) (w' : World) : Prop :=
  (t = [] ∧ e = .returned (.tuple #[.string (bstr out), .nilIface])) ∨
  (t ≠ [] ∧ ∃ (g : Nat) (at_ : Int), e = .returned (.tuple #[.string ByteArray.empty, .iface 88 (.pointer (some ⟨g, 0, none⟩))]) ∧ w.heap.size ≤ g ∧ RowAt w' g 0 90 [.int .i64 3, .int .i64 at_])
set_option maxRecDepth 100000 in
set_option maxHeartbeats 1000000 in
theorem Unhex_any (l t out : List UInt8) (w : World) (hr : Digits.Reads l out) (ht : t = [] ∨ ∃ (c : UInt8) (h : Nat), t = [c] ∧ c ≠ 32 ∧ Keys.dig c.toNat = (h : Int)) (hl : (l ++ t).length ≤ 100000) :
    Calls Tryd.prog 96 #[.string (bstr (l ++ t))] w fun e w' => UnhexOut w t out e w' ∧ Below w.heap.size w w' := by
  obtain ⟨L, hL⟩ : ∃ L, L = l ++ t := ⟨_, rfl⟩
  rw [← hL] at hl ⊢
  obtain ⟨B, hB⟩ : ∃ B, B = w.heap.size := ⟨_, rfl⟩
  rw [← hB]
  have HB := Lib.hid hB; clear hB
  go_enter Tryd.func96, Tryd.ntmps96
  go_wp2_with fail
  go_loopw [4, 5] (fun v4 v5 wr => ∃ (i n cap : Nat) (a : Option Addr) (rest o acc : List UInt8), i ≤ L.length ∧ v5 = .int .i64 i ∧ v4 = .slice a n cap ∧ n ≤ i ∧ Hid (Owns wr B 5 1 a n cap (bvals acc)) ∧ Hid (L.drop i = rest ++ t ∧ Digits.Reads rest o ∧ acc ++ o = out ∧ acc.length = n) ∧ Below B w wr) (fun _ v5 _ => L.length - (intOf v5).toNat)
  case atStart => exact ⟨0, 0, 0, none, l, out, [], by omega, rfl, rfl, by omega, Lib.hid (Owns.nil _ _ _ _), Lib.hid ⟨hL, hr, rfl, rfl⟩, Below.refl _ _⟩
  case round =>
    clear hL hr
    obtain ⟨i, n, cap, a, rest, o, acc, hi, rfl, rfl, hni, HO, HS, hbe⟩ := hrel
    have hbB : B ≤ wr.heap.size := by have := hbe.size; have := HB.out; omega
    obtain ⟨hdr, hrd, hacc, han⟩ := HS.out
    cases hrd with
    | nil =>
      rcases ht with rfl | ⟨c, h, rfl, hc, hdg⟩
      · have hiL : i = L.length := by
          have := congrArg List.length hdr
          simp at this
          omega
        subst hiL
        have hd : decide ((L.length : Int) < (L.length : Int)) = false := by simp
        rw [List.append_nil] at hacc
        cases a with
        | none =>
          obtain ⟨e1, e2, e3⟩ := HO.out.of_none
          have hacc0 : acc = [] := by
            have := congrArg List.length e3
            simp [bvals] at this
            exact this
          rw [hacc0] at hacc
          rw [e1, e2]
          have hstr : ∀ u : World, (convert 95 9 (.slice none 0 0)).run Tryd.prog u = .ok (.string (bstr [])) u := fun u => by kernel_rfl
          rw [hacc] at hstr
          clear e1 e2 e3
          go_wp2_with fail
          go_ret2
          exact ⟨.inl ⟨rfl, rfl⟩, hbe⟩
        | some x =>
          obtain ⟨h1, h2, h3, h4, h5⟩ := HO.out.row
          rw [h1]
          generalize x.block = g at *
          have hstr := run_string_of 95 5 9 Tryd.underlying95 Tryd.underlying5 Tryd.underlying9 h5 n cap han.symm
          rw [hacc] at hstr
          go_wp2_with fail
          go_ret2
          exact ⟨.inl ⟨rfl, rfl⟩, hbe⟩
      · obtain ⟨q1, q2, q3⟩ := Digits.drop_at hdr
        have hL1 : L.length = i + 1 := by
          have := congrArg List.length q3
          simp at this
          omega
        have hcx : ∀ h : i < (bstr L).size, ((bstr L)[i]'h).toNat = c.toNat := fun h => by rw [bstr_at, q2]
        have hc32 : c.toNat ≠ 32 := fun h => hc (UInt8.toNat_inj.mp h)
        have hc8 : c.toNat < 256 := UInt8.toNat_lt _
        clear q2 hc
        generalize c.toNat = x at *
        have hx32 : ((x : Int) == 32) = false := by rw [beq_eq_false_iff_ne]; omega
        have hdg8 := fun w => Digit_any x w hc8
        rw [hdg] at hdg8
        have HDG := Lib.hid hdg8; clear hdg8 hdg
        have d1 : decide ((i : Int) < (L.length : Int)) = true := by rw [decide_eq_true_eq]; omega
        have d2 : decide ((i : Int) + 1 < (L.length : Int)) = false := by rw [decide_eq_false_iff_not]; omega
        have d3 : decide ((h : Int) < 0) = false := by rw [decide_eq_false_iff_not]; omega
        have hi0 : i < L.length := q1
        clear q1 q3 hc32
        go_wp2_with fail
        refine (HDG.out _).mono ?_
        rintro e w1 ⟨rfl, rfl⟩
        go_wp2_with fail
        go_ret2
        exact ⟨.inr ⟨by simp, wr.heap.size, _, rfl, by rw [← HB.out]; exact hbB, RowAt.new wr 90 #[_, _]⟩, hbe.alloc hbB _⟩
    | @blank r' o' hrd' =>
      obtain ⟨q1, q2, q3⟩ := Digits.drop_at (r := r' ++ t) hdr
      have hcx : ∀ h : i < (bstr L).size, ((bstr L)[i]'h).toNat = 32 := fun h => by rw [bstr_at, q2]; rfl
      have d1 : decide ((i : Int) < (L.length : Int)) = true := by rw [decide_eq_true_eq]; omega
      clear q2
      have HQ := Lib.hid q3; clear q3
      go_wp2_with fail
      go_roundw
      case rel => exact ⟨i + 1, n, cap, a, r', o, acc, by omega, by go_num, rfl, by omega, HO, Lib.hid ⟨HQ.out, hrd', hacc, han⟩, hbe⟩
      case measure => simp [intOf]; omega
    | @byte c d h k r' o' hc hh hk hrd' =>
      obtain ⟨q1, q2, q3⟩ := Digits.drop_at (r := d :: (r' ++ t)) hdr
      obtain ⟨p1, p2, p3⟩ := Digits.drop_at q3
      have hh16 := Digits.dig_lt hh
      have hk16 := Digits.dig_lt hk
      have hcx : ∀ h : i < (bstr L).size, ((bstr L)[i]'h).toNat = c.toNat := fun h => by rw [bstr_at, q2]
      have hdx : ∀ h : i + 1 < (bstr L).size, ((bstr L)[i + 1]'h).toNat = d.toNat := fun h => by rw [bstr_at, p2]
      have hc32 : c.toNat ≠ 32 := fun h => hc (UInt8.toNat_inj.mp h)
      have hc8 : c.toNat < 256 := UInt8.toNat_lt _
      have hd8 : d.toNat < 256 := UInt8.toNat_lt _
      clear q2 p2 hc
      generalize c.toNat = x at *
      generalize d.toNat = y at *
      have hx32 : ((x : Int) == 32) = false := by rw [beq_eq_false_iff_ne]; omega
      have HDX := Lib.hid (fun w => Digit_any x w hc8)
      have HDY := Lib.hid (fun w => Digit_any y w hd8)
      rw [hh] at HDX
      rw [hk] at HDY
      clear hh hk hc32
      have d1 : decide ((i : Int) < (L.length : Int)) = true := by rw [decide_eq_true_eq]; omega
      have d2 : decide ((i : Int) + 1 < (L.length : Int)) = true := by rw [decide_eq_true_eq]; omega
      have d3 : decide ((h : Int) < 0) = false := by rw [decide_eq_false_iff_not]; omega
      have d4 : decide ((k : Int) < 0) = false := by rw [decide_eq_false_iff_not]; omega
      have i1 : ((i : Int) + 1).toNat = i + 1 := by omega
      have HP := Lib.hid p3; clear p3 q3
      have hor := Digits.or16 h k hh16 hk16
      generalize UInt8.ofNat (16 * h + k) = z at *
      have hcs : (n + 1) * 1 ≤ 140737488355328 := by omega
      have hml : n + 1 ≤ maxLen := by unfold maxLen; omega
      go_wp2_with fail
      refine (HDX.out _).mono ?_
      rintro e w1 ⟨rfl, rfl⟩
      go_wp2_with fail
      refine (HDY.out _).mono ?_
      rintro e w1 ⟨rfl, rfl⟩
      go_wp2_with (with_reducible refine wpList_push _ rfl _ _ 95 rfl B 5 (.int .u8 0) 1 1 Tryd.underlying95 infoU8 rfl (by decide) a n cap _ rfl HO.out [.int .u8 (z.toNat : Int)] rfl (by simp [Value.oneCell']) rfl hml hcs hbB ?_; intro a' cap' w' hown' hgrow hloc hsz' hex)
      go_roundw
      case rel =>
        refine ⟨i + 2, n + 1, cap', a', r', o', acc ++ [z], by omega, by go_num, rfl, by omega, ?_, Lib.hid ⟨HP.out, hrd', by rw [← hacc]; simp, by simp [han]⟩, below_blk hbe HO.out (Nat.le_refl _) hbB hgrow⟩
        have he : bvals acc ++ [Value.int .u8 (z.toNat : Int)] = bvals (acc ++ [z]) := by simp [bvals, bval]
        rw [← he]; exact Lib.hid hown'
      case measure => simp [intOf]; omega
end Go.Proofs.YtnmbakibiaedhaaDoor
