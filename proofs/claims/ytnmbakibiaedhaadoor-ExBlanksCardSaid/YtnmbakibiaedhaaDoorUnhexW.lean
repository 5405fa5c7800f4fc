/- Contracts of digits.Unhex at a word without blanks, and of ex.bytes, ex.form. -/
import Derived.Test.YtnmbakibiaedhaaDoorDigitsC
import Derived.Test.YtnmbakibiaedhaaDoorNumW
namespace Go.Proofs.YtnmbakibiaedhaaDoor
open Go.RowKit
set_option linter.unusedVariables false
set_option linter.unusedSimpArgs false
def UnhexWOut (o : Option (List UInt8)) (e : Ending) : Prop := match o with
  | some t => e = .returned (.tuple #[.string (bstr t), .nilIface])
  | none => ∃ p, e = .returned (.tuple #[.string ByteArray.empty, .iface 88 (.pointer p)])
theorem dig_hi (c : UInt8) : Keys.dig c.toNat < 16 ∧ -1 ≤ Keys.dig c.toNat := by
  unfold Keys.dig
  (repeat' split) <;> omega
theorem unhex_map {acc : List UInt8} {o : Option (List UInt8)} {z : UInt8} : (o.map fun t => z :: t).map (acc ++ ·) = o.map ((acc ++ [z]) ++ ·) := by
  cases o <;> simp
set_option maxRecDepth 100000 in
set_option maxHeartbeats 1000000 in
theorem UnhexW_any (L : List UInt8) (w : World) (hno : ∀ c ∈ L, c ≠ 32) (hl : L.length ≤ 100000) :
    Calls Tryd.prog 96 #[.string (bstr L)] w fun e w' => UnhexWOut (Ex.unhex L) e ∧ Below w.heap.size w w' := by
  obtain ⟨R, hR⟩ : ∃ R, R = Ex.unhex L := ⟨_, rfl⟩
  rw [← hR]
  have hno2 : ∀ i, i < L.length → (L.getD i 0).toNat ≠ 32 := by
    intro i hi e
    have hm : L.getD i 0 ∈ L := by rw [List.getD_eq_getElem?_getD, List.getElem?_eq_getElem hi]; exact List.getElem_mem hi
    exact hno _ hm (UInt8.toNat_inj.1 e)
  have HNO := Lib.hid hno2
  have hst : R = (Ex.unhex (L.drop 0)).map (([] : List UInt8) ++ ·) := by rw [List.drop_zero, ← hR]; cases R <;> simp
  have HST := Lib.hid hst
  clear hno hno2 hst hR
  obtain ⟨B, hB⟩ : ∃ B, B = w.heap.size := ⟨_, rfl⟩
  rw [← hB]
  have HB := Lib.hid hB; clear hB
  go_enter Tryd.func96, Tryd.ntmps96
  go_wp2_with fail
  go_loopw [4, 5] (fun v4 v5 wr => ∃ (i n cap : Nat) (a : Option Addr) (acc : List UInt8), i ≤ L.length ∧ v5 = .int .i64 i ∧ v4 = .slice a n cap ∧ n ≤ i ∧ Hid (Owns wr B 5 1 a n cap (bvals acc)) ∧ Hid (R = (Ex.unhex (L.drop i)).map (acc ++ ·) ∧ acc.length = n) ∧ Below B w wr) (fun _ v5 _ => L.length - (intOf v5).toNat)
  case atStart => exact ⟨0, 0, 0, none, [], by omega, rfl, rfl, by omega, Lib.hid (Owns.nil _ _ _ _), Lib.hid ⟨HST.out, rfl⟩, Below.refl _ _⟩
  case round =>
    obtain ⟨i, n, cap, a, acc, hi, rfl, rfl, hni, HO, HS, hbe⟩ := hrel
    have hbB : B ≤ wr.heap.size := by have := hbe.size; have := HB.out; omega
    obtain ⟨hR, han⟩ := HS.out
    by_cases hlt : i < L.length
    · have hdr : L.drop i = L.getD i 0 :: L.drop (i + 1) := by
        rw [List.drop_eq_getElem_cons hlt, List.getD_eq_getElem?_getD, List.getElem?_eq_getElem hlt]; rfl
      have hcx : ∀ h : i < (bstr L).size, ((bstr L)[i]'h).toNat = (L.getD i 0).toNat := fun h => by rw [bstr_at]
      have hc32 := HNO.out i hlt
      have hc8 : (L.getD i 0).toNat < 256 := UInt8.toNat_lt _
      have hdh := dig_hi (L.getD i 0)
      have hdx : Ex.isDig (L.getD i 0) = decide (0 ≤ Keys.dig (L.getD i 0).toNat) := rfl
      have hbo : ∀ d, Ex.byteOf (L.getD i 0) d = UInt8.ofNat (16 * (Keys.dig (L.getD i 0).toNat).toNat + (Keys.dig d.toNat).toNat) := fun d => rfl
      rw [hdr] at hR
      generalize L.getD i 0 = c at *
      generalize hcx0 : c.toNat = x at *
      have HDX := Lib.hid (fun w => Digit_any x w hc8)
      have hx32 : ((x : Int) == 32) = false := by rw [beq_eq_false_iff_ne]; omega
      have d1 : decide ((i : Int) < (L.length : Int)) = true := decide_eq_true (by omega)
      have d1n : decide (i < L.length) = true := decide_eq_true hlt
      by_cases h2 : i + 1 < L.length
      · have hdr2 : L.drop (i + 1) = L.getD (i + 1) 0 :: L.drop (i + 2) := by
          rw [List.drop_eq_getElem_cons h2, List.getD_eq_getElem?_getD, List.getElem?_eq_getElem h2]; rfl
        have hdx2 : ∀ h : i + 1 < (bstr L).size, ((bstr L)[i + 1]'h).toNat = (L.getD (i + 1) 0).toNat := fun h => by rw [bstr_at]
        have hd8 : (L.getD (i + 1) 0).toNat < 256 := UInt8.toNat_lt _
        have hdh2 := dig_hi (L.getD (i + 1) 0)
        have hdy : Ex.isDig (L.getD (i + 1) 0) = decide (0 ≤ Keys.dig (L.getD (i + 1) 0).toNat) := rfl
        rw [hdr2, Ex.unhex] at hR
        have hbo2 := hbo (L.getD (i + 1) 0)
        generalize L.getD (i + 1) 0 = d at *
        generalize hdy0 : d.toNat = y at *
        have HDY := Lib.hid (fun w => Digit_any y w hd8)
        have d2 : decide ((i : Int) + 1 < (L.length : Int)) = true := decide_eq_true (by omega)
        have d2n : decide (i + 1 < L.length) = true := decide_eq_true h2
        have i1 : ((i : Int) + 1).toNat = i + 1 := by omega
        generalize Keys.dig x = gx at *
        generalize Keys.dig y = gy at *
        by_cases k1 : 0 ≤ gx
        · by_cases k2 : 0 ≤ gy
          · obtain ⟨h, rfl⟩ := Int.eq_ofNat_of_zero_le k1
            obtain ⟨k, rfl⟩ := Int.eq_ofNat_of_zero_le k2
            rw [if_pos ⟨by rw [hdx]; exact decide_eq_true k1, by rw [hdy]; exact decide_eq_true k2⟩, unhex_map, hbo2] at hR
            simp only [Int.toNat_natCast] at hR
            have hor := Digits.or16 h k (by omega) (by omega)
            have d3 : decide ((h : Int) < 0) = false := decide_eq_false (by omega)
            have d4 : decide ((k : Int) < 0) = false := decide_eq_false (by omega)
            have hh16 : h < 16 := by omega
            have hk16 : k < 16 := by omega
            generalize UInt8.ofNat (16 * h + k) = z at *
            have HR := Lib.hid hR; have HAN := Lib.hid han
            have hcs : (n + 1) * 1 ≤ 140737488355328 := by omega
            have hml : n + 1 ≤ maxLen := by unfold maxLen; omega
            have hn2 : n + 1 ≤ i + 2 := by omega
            have hi2 : i + 2 ≤ L.length := by omega
            clear hR han hdr hdr2 hc32 hdx hdy hbo hbo2 hcx0 hdy0 k1 k2 hdh hdh2
            go_wp2_with fail
            refine (HDX.out _).mono ?_
            rintro e w1 ⟨rfl, rfl⟩
            go_wp2_with fail
            refine (HDY.out _).mono ?_
            rintro e w1 ⟨rfl, rfl⟩
            go_wp2_with (with_reducible refine wpList_push _ rfl _ _ 95 rfl B 5 (.int .u8 0) 1 1 Tryd.underlying95 infoU8 rfl (by decide) a n cap _ rfl HO.out [.int .u8 (z.toNat : Int)] rfl (by simp [Value.oneCell']) rfl hml hcs hbB ?_; intro a' cap' w' hown' hgrow hloc hsz' hex)
            go_roundw
            case rel =>
              refine ⟨i + 2, n + 1, cap', a', acc ++ [z], hi2, by go_num, rfl, hn2, ?_, Lib.hid ⟨HR.out, by rw [List.length_append, HAN.out]; rfl⟩, below_blk hbe HO.out (Nat.le_refl _) hbB hgrow⟩
              have he : bvals acc ++ [Value.int .u8 (z.toNat : Int)] = bvals (acc ++ [z]) := by simp [bvals, bval]
              rw [← he]; exact Lib.hid hown'
            case measure => simp [intOf]; omega
          · rw [if_neg (by rw [hdy]; intro h; exact k2 (of_decide_eq_true h.2))] at hR
            obtain ⟨h, rfl⟩ := Int.eq_ofNat_of_zero_le k1
            obtain rfl : gy = -1 := by omega
            have d3 : decide ((h : Int) < 0) = false := decide_eq_false (by omega)
            have HR := Lib.hid hR
            clear hR han hdr hdr2 hc32 hdx hdy hbo hbo2 hcx0 hdy0 k1 k2 hdh hdh2
            go_wp2_with fail
            refine (HDX.out _).mono ?_
            rintro e w1 ⟨rfl, rfl⟩
            go_wp2_with fail
            refine (HDY.out _).mono ?_
            rintro e w1 ⟨rfl, rfl⟩
            go_wp2_with fail
            go_ret2
            rw [HR.out]
            exact ⟨⟨_, rfl⟩, hbe.alloc hbB _⟩
        · rw [if_neg (by rw [hdx]; intro h; exact k1 (of_decide_eq_true h.1))] at hR
          obtain rfl : gx = -1 := by omega
          have HR := Lib.hid hR
          clear hR han hdr hdr2 hc32 hdx hdy hbo hbo2 hcx0 hdy0 k1 hdh hdh2
          go_wp2_with fail
          refine (HDX.out _).mono ?_
          rintro e w1 ⟨rfl, rfl⟩
          go_wp2_with fail
          refine (HDY.out _).mono ?_
          rintro e w1 ⟨rfl, rfl⟩
          go_wp2_with fail
          go_ret2
          rw [HR.out]
          exact ⟨⟨_, rfl⟩, hbe.alloc hbB _⟩
      · have hdr2 : L.drop (i + 1) = [] := List.drop_eq_nil_of_le (by omega)
        rw [hdr2, Ex.unhex] at hR
        have d2 : decide ((i : Int) + 1 < (L.length : Int)) = false := decide_eq_false (by omega)
        have d2n : decide (i + 1 < L.length) = false := decide_eq_false h2
        have HR := Lib.hid hR
        generalize Keys.dig x = gx at *
        clear hR han hdr hdr2 hc32 hdx hbo hcx0
        by_cases k1 : 0 ≤ gx
        · have d3 : decide (gx < 0) = false := decide_eq_false (by omega)
          go_wp2_with fail
          refine (HDX.out _).mono ?_
          rintro e w1 ⟨rfl, rfl⟩
          go_wp2_with fail
          go_ret2
          rw [HR.out]
          exact ⟨⟨_, rfl⟩, hbe.alloc hbB _⟩
        · have d3 : decide (gx < 0) = true := decide_eq_true (by omega)
          go_wp2_with fail
          refine (HDX.out _).mono ?_
          rintro e w1 ⟨rfl, rfl⟩
          go_wp2_with fail
          go_ret2
          rw [HR.out]
          exact ⟨⟨_, rfl⟩, hbe.alloc hbB _⟩
    · obtain rfl : i = L.length := by omega
      have hd : decide ((L.length : Int) < (L.length : Int)) = false := by simp
      have hRa : R = some acc := by rw [hR, List.drop_length, Ex.unhex]; simp
      have HR := Lib.hid hRa
      clear hR hRa
      cases a with
      | none =>
        obtain ⟨e1, e2, e3⟩ := HO.out.of_none
        have hacc0 : acc = [] := by
          have := congrArg List.length e3
          simp [bvals] at this
          exact this
        subst hacc0
        rw [e1, e2]
        have hstr : ∀ u : World, (convert 95 9 (.slice none 0 0)).run Tryd.prog u = .ok (.string (bstr [])) u := fun u => by kernel_rfl
        clear e1 e2 e3
        go_wp2_with fail
        go_ret2
        rw [HR.out]
        exact ⟨rfl, hbe⟩
      | some x =>
        obtain ⟨h1, h2, h3, h4, h5⟩ := HO.out.row
        rw [h1]
        generalize x.block = g at *
        have hstr := run_string_of 95 5 9 Tryd.underlying95 Tryd.underlying5 Tryd.underlying9 h5 n cap han.symm
        go_wp2_with fail
        go_ret2
        rw [HR.out]
        exact ⟨rfl, hbe⟩
def BytesOut (o : Option (List UInt8)) (e : Ending) : Prop := match o with
  | some t => e = .returned (.tuple #[.string (bstr t), .nilIface])
  | none => e = .returned (.tuple #[.string ByteArray.empty, .iface 31 (.int .i64 3)])
set_option maxRecDepth 100000 in
theorem bytes_any (L : List UInt8) (w : World) (hno : ∀ c ∈ L, c ≠ 32) (hl : L.length ≤ 100000) :
    Calls Tryd.prog 69 #[.string (bstr L)] w fun e w' => BytesOut (Ex.hexB L) e ∧ Below w.heap.size w w' := by
  have hu := fun w => UnhexW_any L w hno hl
  by_cases h : L = [45]
  · subst h
    have e : Ex.hexB [45] = some [] := if_pos rfl
    rw [e]
    clear hu e hno
    go_enter Tryd.func69, Tryd.ntmps69
    go_wp2_with fail
    go_ret2
    exact ⟨rfl, Below.refl _ _⟩
  · have e : Ex.hexB L = Ex.unhex L := if_neg h
    rw [e]
    have hb : (L == [45]) = false := by rw [beq_eq_false_iff_ne]; exact h
    have HU := Lib.hid hu
    clear hu e h
    cases hx : Ex.unhex L with
    | some t =>
      rw [hx] at HU
      have HU2 : Hid (∀ w, Calls Tryd.prog 96 #[.string (bstr L)] w fun e w' => e = .returned (.tuple #[.string (bstr t), .nilIface]) ∧ Below w.heap.size w w') := HU
      clear HU hx
      go_enter Tryd.func69, Tryd.ntmps69
      go_wp2_with fail
      refine (HU2.out _).mono ?_
      rintro e w1 ⟨rfl, hb1⟩
      go_wp2_with fail
      go_ret2
      exact ⟨rfl, hb1⟩
    | none =>
      rw [hx] at HU
      have HU2 : Hid (∀ w, Calls Tryd.prog 96 #[.string (bstr L)] w fun e w' => (∃ p, e = .returned (.tuple #[.string ByteArray.empty, .iface 88 (.pointer p)])) ∧ Below w.heap.size w w') := HU
      clear HU hx
      go_enter Tryd.func69, Tryd.ntmps69
      go_wp2_with fail
      refine (HU2.out _).mono ?_
      rintro e w1 ⟨⟨p, rfl⟩, hb1⟩
      go_wp2_with fail
      go_ret2
      exact ⟨rfl, hb1⟩
def FormOut (o : Option (List UInt8)) (e : Ending) : Prop := match o with
  | some f => e = .returned (.tuple #[.string (bstr f), .bool true])
  | none => e = .returned (.tuple #[.string ByteArray.empty, .bool false])
set_option maxRecDepth 100000 in
set_option maxHeartbeats 1000000 in
theorem form_any (L : List UInt8) (w : World) :
    Calls Tryd.prog 68 #[.string (bstr L)] w fun e w' => FormOut (Ex.formOf L) e ∧ w = w' := by
  unfold Ex.formOf
  by_cases h1 : L = [100]
  · subst h1; go_enter Tryd.func68, Tryd.ntmps68; go_wp2_with fail; go_ret2; exact ⟨rfl, rfl⟩
  by_cases h2 : L = [121]
  · subst h2; go_enter Tryd.func68, Tryd.ntmps68; go_wp2_with fail; go_ret2; exact ⟨rfl, rfl⟩
  by_cases h3 : L = [102, 105, 108, 108]
  · subst h3; go_enter Tryd.func68, Tryd.ntmps68; go_wp2_with fail; go_ret2; exact ⟨rfl, rfl⟩
  by_cases h4 : L = [115]
  · subst h4; go_enter Tryd.func68, Tryd.ntmps68; go_wp2_with fail; go_ret2; exact ⟨rfl, rfl⟩
  by_cases h5 : L = [115, 101, 116]
  · subst h5; go_enter Tryd.func68, Tryd.ntmps68; go_wp2_with fail; go_ret2; exact ⟨rfl, rfl⟩
  by_cases h6 : L = [112, 117, 116]
  · subst h6; go_enter Tryd.func68, Tryd.ntmps68; go_wp2_with fail; go_ret2; exact ⟨rfl, rfl⟩
  by_cases h7 : L = [100, 117, 112]
  · subst h7; go_enter Tryd.func68, Tryd.ntmps68; go_wp2_with fail; go_ret2; exact ⟨rfl, rfl⟩
  by_cases h8 : L = [100, 114, 111, 112]
  · subst h8; go_enter Tryd.func68, Tryd.ntmps68; go_wp2_with fail; go_ret2; exact ⟨rfl, rfl⟩
  by_cases h9 : L = [102, 105, 120]
  · subst h9; go_enter Tryd.func68, Tryd.ntmps68; go_wp2_with fail; go_ret2; exact ⟨rfl, rfl⟩
  by_cases h10 : L = [117, 110, 100, 111]
  · subst h10; go_enter Tryd.func68, Tryd.ntmps68; go_wp2_with fail; go_ret2; exact ⟨rfl, rfl⟩
  by_cases h11 : L = [102, 111, 114, 99, 101]
  · subst h11; go_enter Tryd.func68, Tryd.ntmps68; go_wp2_with fail; go_ret2; exact ⟨rfl, rfl⟩
  rw [if_neg (by rintro (e | e); exact h1 e; exact h2 e), if_neg h3, if_neg h4, if_neg h5, if_neg h6, if_neg (by rintro (e | e); exact h7 e; exact h8 e), if_neg h9, if_neg h10, if_neg h11]
  have b1 := beq_eq_false_iff_ne.2 h1; have b2 := beq_eq_false_iff_ne.2 h2; have b3 := beq_eq_false_iff_ne.2 h3; have b4 := beq_eq_false_iff_ne.2 h4
  have b5 := beq_eq_false_iff_ne.2 h5; have b6 := beq_eq_false_iff_ne.2 h6; have b7 := beq_eq_false_iff_ne.2 h7; have b8 := beq_eq_false_iff_ne.2 h8
  have b9 := beq_eq_false_iff_ne.2 h9; have b10 := beq_eq_false_iff_ne.2 h10; have b11 := beq_eq_false_iff_ne.2 h11
  clear h1 h2 h3 h4 h5 h6 h7 h8 h9 h10 h11
  go_enter Tryd.func68, Tryd.ntmps68
  go_wp2_with fail
  go_ret2
  exact ⟨rfl, rfl⟩
end Go.Proofs.YtnmbakibiaedhaaDoor
