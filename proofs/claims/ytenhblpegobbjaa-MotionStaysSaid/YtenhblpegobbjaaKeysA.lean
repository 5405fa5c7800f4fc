/- Contracts of package keys: next, has, count. -/
import Derived.Test.YtenhblpegobbjaaChecked
import Derived.Test.YtenhblpegobbjaaOwn
import Derived.Test.YtenhblpegobbjaaShelf
namespace Go.Proofs.Ytenhblpegobbjaa
open Go.RowKit
set_option linter.unusedVariables false
set_option linter.unusedSimpArgs false
/-- a reader at block g: what is left of the keys, and whether they are bad -/
def Rd (w : World) (g : Nat) (l : List UInt8) (bad : Bool) : Prop := ∃ s : ByteArray, s.data.toList = l ∧ RowAt w g 0 95 [.string s, .bool bad]
theorem Rd.lt {w : World} {g : Nat} {l : List UInt8} {bad : Bool} (h : Rd w g l bad) : g < w.heap.size := by obtain ⟨s, _, h⟩ := h; exact h.lt
theorem Rd.below {B : Nat} {w w' : World} {g : Nat} {l : List UInt8} {bad : Bool} (h : Rd w g l bad) (hb : Below B w w') (hg : g < B) : Rd w' g l bad := by
  obtain ⟨s, h1, h⟩ := h; exact ⟨s, h1, h.below hb hg⟩
theorem extract_one (s : ByteArray) (c : UInt8) (l : List UInt8) (h : s.data.toList = c :: l) : (s.extract 1 s.size).data.toList = l := by
  have h1 : (s.extract 1 s.size).data.toList = (s.data.toList.take s.size).drop 1 := by
    simp [ByteArray.data_extract, List.extract_eq_take_drop, List.drop_take]
  rw [h1, List.take_of_length_le (by rw [Array.length_toList]; exact Nat.le_refl _), h]
  rfl
set_option maxRecDepth 100000 in
theorem next_nil (g : Nat) (bad : Bool) (w : World) (h : Rd w g [] bad) :
    Calls Try.prog 57 #[.pointer (some ⟨g, 0, none⟩)] w fun e w' => e = .returned (.tuple #[.int .u8 0, .bool false]) ∧ w = w' := by
  obtain ⟨s, hs, hr⟩ := h
  have hc := hr.cell0 0 (by simp)
  have hemp : s.toList.isEmpty = true := by rw [ByteArray.toList_eq, hs]; rfl
  simp only [List.getElem_cons_zero] at hc
  clear hr hs
  go_enter Try.func57, Try.ntmps57
  go_wp2_with fail
  go_ret2
  exact ⟨rfl, rfl⟩
set_option maxRecDepth 100000 in
theorem next_cons (g : Nat) (c : UInt8) (l : List UInt8) (bad : Bool) (w : World) (h : Rd w g (c :: l) bad) :
    Calls Try.prog 57 #[.pointer (some ⟨g, 0, none⟩)] w fun e w' => e = .returned (.tuple #[.int .u8 ((c.toNat : Nat) : Int), .bool true]) ∧ Rd w' g l bad ∧ w.grownBy w' (some g) := by
  obtain ⟨s, hs, hr⟩ := h
  have hc := hr.cell0 0 (by simp)
  have hf := hr.frozen0 0 (by simp)
  have hemp : s.toList.isEmpty = false := by rw [ByteArray.toList_eq, hs]; rfl
  have hsz : 0 < s.size := by have := data_length s; rw [hs] at this; simp at this; omega
  have hszI : (0 : Int) < (s.size : Int) := by omega
  have hszI2 : (1 : Int) ≤ (s.size : Int) := by omega
  have h0 : s[0] = c := by rw [byteAt s 0 hsz, hs]; rfl
  have hx := extract_one s c l hs
  simp only [List.getElem_cons_zero] at hc
  have HX := Lib.hid hx; clear hx
  have HR := Lib.hid hr; clear hr hs
  have H0 := Lib.hid h0; clear h0
  go_enter Try.func57, Try.ntmps57
  go_wp2_with fail
  go_ret2
  have h1 := HR.out.set0 0 (by simp) (.string (s.extract 1 s.size))
  exact ⟨by rw [H0.out]; rfl, ⟨_, HX.out, h1⟩, grown_set (grown_refl w _) rfl _⟩
namespace Keys
/-- a number that begins with no nought, of no more than 9999, and what stands behind it -/
def cnt : List UInt8 → Nat → Nat × List UInt8
  | [], n => (n, [])
  | c :: l, n => if (49 ≤ c.toNat ∧ c.toNat ≤ 57) ∨ (0 < n ∧ c.toNat = 48) then cnt l (min (n * 10 + (c.toNat - 48)) 9999) else (n, c :: l)
theorem cnt_le : ∀ (l : List UInt8) (n : Nat), n ≤ 9999 → (cnt l n).1 ≤ 9999
  | [], n, h => h
  | c :: l, n, h => by
    unfold cnt
    split
    · exact cnt_le l _ (by omega)
    · exact h
/-- a byte is one of some -/
def isIn (l : List UInt8) (c : UInt8) : Bool := l.contains c
end Keys
set_option maxRecDepth 100000 in
set_option maxHeartbeats 1000000 in
theorem count_any (g : Nat) (L : List UInt8) (bad : Bool) (w : World) (h : Rd w g L bad) (hL : L.length ≤ 1000) :
    Calls Try.prog 58 #[.pointer (some ⟨g, 0, none⟩)] w fun e w' => e = .returned (.int .i64 ((Keys.cnt L 0).1 : Nat)) ∧ Rd w' g (Keys.cnt L 0).2 bad ∧ w.grownBy w' (some g) := by
  have H := Lib.hid h; clear h
  obtain ⟨R, hR⟩ : ∃ R, R = Keys.cnt L 0 := ⟨_, rfl⟩
  rw [← hR]
  have HR0 := Lib.hid hR.symm; clear hR
  go_enter Try.func58, Try.ntmps58
  go_wp2_with fail
  go_loopw [3] (fun v wr => ∃ (n : Nat) (l : List UInt8), v = .int .i64 n ∧ n ≤ 9999 ∧ Hid (Keys.cnt l n = R) ∧ Hid (Rd wr g l bad) ∧ Hid (w.grownBy wr (some g))) (fun v wr => match wr.cell? ⟨g, 0, none⟩ with | some (.string s) => s.size | _ => 0)
  case atStart => exact ⟨0, L, rfl, by omega, HR0, H, grown_refl _ _⟩
  case round =>
    clear H
    obtain ⟨n, l, rfl, hn, HC, HR, HG⟩ := hrel
    obtain ⟨s, hs, hr⟩ := HR.out
    have hc := hr.cell0 0 (by simp)
    have hf := hr.frozen0 0 (by simp)
    simp only [List.getElem_cons_zero] at hc
    cases l with
    | nil =>
      have hemp : s.toList.isEmpty = true := by rw [ByteArray.toList_eq, hs]; rfl
      have HCC := HC.out
      clear hs hr
      go_wp2_with fail
      go_ret
      rw [← HCC]
      exact ⟨rfl, HR.out, HG.out⟩
    | cons c l =>
      have hemp : s.toList.isEmpty = false := by rw [ByteArray.toList_eq, hs]; rfl
      have hsz : 0 < s.size := by have := data_length s; rw [hs] at this; simp at this; omega
      have hszI : (0 : Int) < (s.size : Int) := by omega
      have hszI2 : (1 : Int) ≤ (s.size : Int) := by omega
      have h0 : s[0].toNat = c.toNat := by rw [byteAt s 0 hsz, hs]; rfl
      have hx := extract_one s c l hs
      have HX := Lib.hid hx; clear hx
      have HRR := Lib.hid hr; clear hr hs
      have hb8 : s[0].toNat < 256 := UInt8.toNat_lt _
      have hcn := HC.out
      unfold Keys.cnt at hcn
      rw [← h0] at hcn
      by_cases hyes : (49 ≤ s[0].toNat ∧ s[0].toNat ≤ 57) ∨ (0 < n ∧ s[0].toNat = 48)
      · rw [if_pos hyes] at hcn
        have HCN := Lib.hid hcn; clear hcn
        have hge : 48 ≤ s[0].toNat := by omega
        have hmin : min ((n : Int) * 10 + ((s[0].toNat : Int) - 48)) 9999 = ((min (n * 10 + (s[0].toNat - 48)) 9999 : Nat) : Int) := by omega
        have hwx := HRR.out.set0 0 (by simp) (.string (s.extract 1 s.size))
        have hms : (s.extract 1 s.size).size = s.size - 1 := by simp
        have HMS := Lib.hid hms; clear hms
        have HMIN := Lib.hid hmin; clear hmin
        have HWX := Lib.hid hwx; clear hwx
        clear h0
        go_wp2_with fail
        all_goals
          go_roundw
          case rel => exact ⟨min (n * 10 + (s[0].toNat - 48)) 9999, l, by have := HMIN.out; exact congrArg _ (by push_cast at this ⊢; omega), by omega, HCN, ⟨_, HX.out, HWX.out⟩, grown_set HG.out rfl _⟩
          case measure =>
            rw [World.cell?_setCell_same _ _ _ hc, hc]
            simp only [HMS.out]
            omega
      · rw [if_neg hyes] at hcn
        have HCN := Lib.hid hcn.symm; clear hcn
        have hno1 : (decide ((49 : Int) ≤ (s[0].toNat : Int)) && decide ((s[0].toNat : Int) ≤ 57)) = false := by
          rw [Bool.and_eq_false_iff, decide_eq_false_iff_not, decide_eq_false_iff_not]; omega
        clear h0
        by_cases hn0 : 0 < n
        · have h48 : ((s[0].toNat : Int) == 48) = false := by rw [beq_eq_false_iff_ne]; omega
          by_cases h49 : 49 ≤ s[0].toNat
          · have h57 : 57 < s[0].toNat := by omega
            clear hno1 hyes
            go_wp2_with fail
            go_ret
            rw [HCN.out]
            exact ⟨rfl, HR.out, HG.out⟩
          · clear hno1 hyes
            go_wp2_with fail
            go_ret
            rw [HCN.out]
            exact ⟨rfl, HR.out, HG.out⟩
        · by_cases h49 : 49 ≤ s[0].toNat
          · have h57 : 57 < s[0].toNat := by omega
            clear hno1 hyes
            go_wp2_with fail
            go_ret
            rw [HCN.out]
            exact ⟨rfl, HR.out, HG.out⟩
          · clear hno1 hyes
            go_wp2_with fail
            go_ret
            rw [HCN.out]
            exact ⟨rfl, HR.out, HG.out⟩
end Go.Proofs.Ytenhblpegobbjaa
