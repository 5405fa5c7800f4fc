/- Contracts of xxd.Dump and xxd.Plain. -/
import Derived.Test.YtenhblpegobbjaaDoorShownA
import Derived.Test.YtenhblpegobbjaaDoorDigitsB
import Derived.Test.YtenhblpegobbjaaDoorBuilder
import Derived.Test.YtenhblpegobbjaaDoorShelfXa
import Derived.Test.YtenhblpegobbjaaDoorXxdA
namespace Go.Proofs.YtenhblpegobbjaaDoor
open Go.RowKit
set_option linter.unusedVariables false
set_option linter.unusedSimpArgs false
theorem Bd.string (B b : Nat) (l : List UInt8) (w : World) (h : IsB B b l w) (hBw : B ≤ w.heap.size) :
    Calls Tryd.prog 20 #[.pointer (some ⟨b, 0, none⟩)] w fun e w' => e = .returned (.string (bstr l)) ∧ Below B w w' := Tryd.Builder_String_any B b l w h hBw
theorem Print16 (n : Nat) (w : World) (hn : n ≤ 4000) : Calls Tryd.prog 15 #[.int .u64 (n : Nat), .int .i64 16, .int .i64 8] w fun e w' => e = .returned (.tuple #[.string (bstr (Digits.ds 16 n 8)), .nilIface]) ∧ Below w.heap.size w w' := by
  refine (Print_any n 16 8 w (by omega) (by decide) (by decide) (by decide)).mono ?_
  rintro e w' ⟨⟨J, hJ, he⟩, hb⟩
  have h8 : Digits.Wide 16 n (max 8 1) 8 := ⟨by decide, by
    have : (4294967296 : Nat) = 16 ^ 8 := by decide
    omega, fun k hk _ => by omega⟩
  rw [hJ.unique h8] at he
  exact ⟨he, hb⟩
theorem Repeat_blank (n : Nat) (w : World) (hn : n ≤ 100000) : Calls Tryd.prog 18 #[.string (bstr [32]), .int .i64 (n : Nat)] w fun e w' => e = .returned (.string (bstr (List.replicate n 32))) ∧ Below w.heap.size w w' := by
  refine (Tryd.strings_Repeat (bstr [32]) n w (by omega) (by rw [bstr_size]; simp; omega)).mono ?_
  rintro e w' ⟨he, hb⟩
  refine ⟨?_, hb⟩
  rw [he]
  have : Lib.repeatL (bstr [32]).data.toList n = List.replicate n 32 := by
    have := Lib.repeatL_replicate (32 : UInt8) 1 n
    rw [Nat.mul_one] at this
    exact this
  rw [this]; rfl
theorem row_cut (s : List UInt8) (c k : Nat) : (bstr s).extract (k * c) (min (k * c + c) s.length) = bstr (Xx.row s c k) := by
  apply ByteArray.ext
  apply Array.ext'
  rw [ByteArray.data_extract, Array.toList_extract]
  show (s.drop (k * c)).take (min (k * c + c) s.length - k * c) = (s.drop (k * c)).take c
  by_cases h : k * c + c ≤ s.length
  · rw [Nat.min_eq_left h]; congr 1; omega
  · rw [Nat.min_eq_right (by omega), List.take_of_length_le (by rw [List.length_drop]; omega), List.take_of_length_le (by rw [List.length_drop]; omega)]
theorem cat1 (X : List UInt8) (c : UInt8) : bstr X ++ { data := #[c] } = bstr (X ++ [c]) := by
  rw [show ({ data := #[c] } : ByteArray) = bstr [c] from rfl, bstr_append]
theorem hex_length (l : List UInt8) : (Digits.hex l).length = 2 * l.length := by
  induction l with
  | nil => rfl
  | cons b l ih =>
    have : Digits.hex (b :: l) = Digits.two b ++ Digits.hex l := by simp [Digits.hex]
    rw [this, List.length_append, ih, (Xx.two_of b).2.2.2, List.length_cons]
    omega
theorem plainTo_length (s : List UInt8) : ∀ n, (Xx.plainTo s n).length ≤ 61 * n
  | 0 => by simp [Xx.plainTo]
  | n + 1 => by
    have ih := plainTo_length s n
    rw [Xx.plainTo_succ, List.length_append, List.length_append, hex_length]
    have := Xx.row_len s 30 n
    simp only [List.length_cons, List.length_nil]
    omega
set_option maxRecDepth 100000 in
set_option maxHeartbeats 1000000 in
theorem Plain_any (s : List UInt8) (w : World) (hs : s.length ≤ 4000) : Calls Tryd.prog 9 #[.string (bstr s)] w fun e w' => e = .returned (.string (bstr (Xx.plainTo s (Xx.rows s 30)))) ∧ Below w.heap.size w w' := by
  have hfr := IsB.fresh w
  have hb0 := (Below.refl w.heap.size w).alloc (Nat.le_refl _) (.cells #[.pointer none, .slice none 0 0] 43)
  have HFR := Lib.hid hfr; have HB0 := Lib.hid hb0
  clear hfr hb0
  go_enter Tryd.func9, Tryd.ntmps9
  go_wp2_with fail
  generalize hB : w.heap.size = B at *
  have HB := Lib.hid hB; clear hB
  go_loopw [4] (fun v4 wr => ∃ k : Nat, k ≤ Xx.rows s 30 ∧ v4 = .int .i64 ((k * 30 : Nat) : Int) ∧ Hid (IsB B B (Xx.plainTo s k) wr) ∧ Hid (Below B w wr) ∧ B ≤ wr.heap.size) (fun v4 _ => s.length + 30 - (intOf v4).toNat)
  case atStart => exact ⟨0, by omega, rfl, HFR, HB0, by rw [← HB.out]; simp⟩
  case round =>
    obtain ⟨k, hk, rfl, HI, HBW, hBw⟩ := hrel
    have hrl := Xx.rows_lt s 30 k (by omega)
    by_cases hlt : k < Xx.rows s 30
    · have hks := hrl.1 hlt
      have hcut := row_cut s 30 k
      have hpl := plainTo_length s k
      have hsucc := Xx.plainTo_succ s k
      have hrw := Xx.row_len s 30 k
      have hk1 : (k + 1) * 30 = k * 30 + 30 := by omega
      have hki : ((k * 30 : Nat) : Int) < (s.length : Int) := by omega
      obtain ⟨a, ha⟩ : ∃ a, a = k * 30 := ⟨_, rfl⟩
      obtain ⟨E, hE⟩ : ∃ E, E = min (k * 30 + 30) s.length := ⟨_, rfl⟩
      have hmin : min ((a : Int) + 30) (s.length : Int) = (E : Int) := by rw [ha, hE]; omega
      have haE : a ≤ E := by rw [ha, hE]; omega
      have hEs : E ≤ s.length := by rw [hE]; omega
      have hx := fun w => Hex_any (Xx.row s 30 k) w (by omega)
      have hxl := hex_length (Xx.row s 30 k)
      rw [← hE, ← ha] at hcut
      rw [← ha] at hki hk1
      rw [← ha]
      generalize Xx.row s 30 k = R at *
      generalize Digits.hex R = X at *
      generalize Xx.plainTo s k = P at *
      have HX := Lib.hid hx; have HSU := Lib.hid hsucc
      have HA := Lib.hid ha
      have HK1 := Lib.hid hk1
      have ha4 : a ≤ 4000 := by omega
      have hXl : X.length ≤ 60 := by omega
      have hPl : P.length ≤ 300000 := by omega
      have q1 : ¬ 9223372036854775807 < X.length + 1 := by omega
      clear hx hsucc ha hE hxl hrw hpl hrl hks hk1
      have hcat := cat1 X 10
      go_wp2_with fail
      refine (HX.out _).mono ?_
      rintro e w1 ⟨rfl, hb1⟩
      have hi1 := HI.out.below hb1
      have hB1 := HBW.out.trans (hb1.mono hBw)
      have hs1 := hb1.size
      have HI1 := Lib.hid hi1; have HB1 := Lib.hid hB1
      clear hi1 hB1 hb1
      go_wp2_with fail
      refine (WriteString_any B B P (X ++ [10]) _ HI1.out (by rw [List.length_append]; simp; omega) (by omega)).mono ?_
      rintro e w2 ⟨rfl, hi2, hb2, _⟩
      have HI2 := Lib.hid hi2; have HB2 := Lib.hid (HB1.out.trans hb2)
      have hs2 := hb2.size
      clear hi2 hb2
      go_wp2_with fail
      go_roundw
      case rel => exact ⟨k + 1, by omega, by rw [HK1.out]; rfl, by rw [HSU.out]; exact HI2, HB2, by omega⟩
      case measure => simp [intOf]; omega
    · have hks : ¬ k * 30 < s.length := fun h => hlt (hrl.2 h)
      obtain rfl : k = Xx.rows s 30 := by omega
      have hki : ¬ ((Xx.rows s 30 * 30 : Nat) : Int) < (s.length : Int) := by omega
      clear hlt hrl hk
      generalize Xx.rows s 30 * 30 = a at *
      go_wp2_with fail
      refine (Bd.string B B _ _ HI.out hBw).mono ?_
      rintro e w5 ⟨rfl, hb5⟩
      have HF := Lib.hid (HBW.out.trans hb5)
      clear hb5
      go_wp2_with fail
      go_ret
      exact ⟨rfl, by rw [HB.out]; exact HF.out⟩
end Go.Proofs.YtenhblpegobbjaaDoor
