/- Contract of xxd.line. (Printed by wip/gen_xxda.py.) -/
import Derived.Test.YtenhblpegobbjaaDoorPlainXxd
import Derived.Test.YtenhblpegobbjaaDoorNumA
import Derived.Test.YtenhblpegobbjaaDoorShelfXa
namespace Go.Proofs.YtenhblpegobbjaaDoor
open Go.RowKit
set_option linter.unusedVariables false
set_option linter.unusedSimpArgs false
namespace Xx
theorem indexByte_no : ∀ (l : List UInt8) (c : UInt8), c ∉ l → Lib.indexByte l c = -1
  | [], _, _ => rfl
  | b :: l, c, h => by
    have h1 : (b == c) = false := by rw [beq_eq_false_iff_ne]; intro e; exact h (by rw [e]; simp)
    have h2 := indexByte_no l c (fun h3 => h (by simp [h3]))
    unfold Lib.indexByte
    rw [h1, h2]; rfl
theorem indexByte_at : ∀ (p : List UInt8) (c : UInt8) (r : List UInt8), c ∉ p → Lib.indexByte (p ++ c :: r) c = (p.length : Int)
  | [], c, r, _ => by
    show Lib.indexByte (c :: r) c = 0
    unfold Lib.indexByte
    simp
  | b :: p, c, r, h => by
    have h1 : (b == c) = false := by rw [beq_eq_false_iff_ne]; intro e; exact h (by rw [e]; simp)
    have h2 := indexByte_at p c r (fun h3 => h (by simp [h3]))
    rw [List.cons_append]
    unfold Lib.indexByte
    rw [h1, h2]
    have h3 : ((p.length : Int) == -1) = false := by rw [beq_eq_false_iff_ne]; omega
    rw [h3, List.length_cons]
    simp
def atI : Option Nat → Int
  | none => -1
  | some n => (n : Int)
theorem drop_at' {L : List UInt8} {i : Nat} {c : UInt8} {r : List UInt8} (h : L.drop i = c :: r) : i < L.length ∧ L.getD i 0 = c ∧ L.drop (i + 1) = r := by
  have hi : i < L.length := by
    rcases Nat.lt_or_ge i L.length with hi | hi
    · exact hi
    · rw [List.drop_eq_nil_of_le hi] at h; cases h
  rw [List.drop_eq_getElem_cons hi] at h
  cases h
  exact ⟨hi, by rw [List.getD_eq_getElem?_getD, List.getElem?_eq_getElem hi]; rfl, rfl⟩
theorem or16' (h k : Nat) (h1 : h < 16) (h2 : k < 16) : bits .or .i64 ((h : Int) * 16) (k : Int) % 256 = (((UInt8.ofNat (16 * h + k)).toNat : Nat) : Int) := by
  have key : ∀ h : Fin 16, ∀ k : Fin 16, bits .or .i64 (((h : Nat) : Int) * 16) ((k : Nat) : Int) % 256 = (((UInt8.ofNat (16 * (h : Nat) + (k : Nat))).toNat : Nat) : Int) := by decide +kernel
  exact key ⟨h, h1⟩ ⟨k, h2⟩
theorem dig_lt' {c : UInt8} {h : Nat} (e : Keys.dig c.toNat = (h : Int)) : h < 16 := by
  unfold Keys.dig at e
  (repeat' split at e) <;> omega
theorem take_drop8 (p r : List UInt8) (x : UInt8) (k : Nat) (h : p.length = k) : (p ++ x :: r).take k = p ∧ (p ++ x :: r).drop (k + 1) = r := by
  subst h
  exact ⟨by simp, by rw [← List.drop_drop]; simp⟩
end Xx
theorem conv_own {w : World} {B : Nat} {a : Option Addr} {n cap : Nat} {l : List UInt8} (h : w.ownsRow B 5 1 (.slice a n cap) n (bvals l)) : (convert 41 9 (.slice a n cap)).run Tryd.prog w = .ok (.string (bstr l)) w := by
  have h' : Owns w B 5 1 a n cap (bvals l) := h
  have hl := h'.len
  rw [bvals_length, Nat.mul_one] at hl
  cases a with
  | none =>
    obtain ⟨h1, h2, h3⟩ := h'.of_none
    subst h1 h2
    obtain rfl : l = [] := List.eq_nil_of_length_eq_zero hl
    have hcv : ∀ w, (convert 41 9 (.slice none 0 0)).run Tryd.prog w = .ok (.string (bstr [])) w := fun w => by kernel_rfl
    exact hcv w
  | some x =>
    obtain ⟨e1, e2, e3, e4, e5⟩ := h'.row
    rw [e1]
    exact run_string_of (P := Tryd.prog) 41 5 9 Tryd.underlying41 Tryd.underlying5 Tryd.underlying9 e5 n cap hl.symm
open Xx
set_option maxRecDepth 100000 in
set_option maxHeartbeats 2000000 in
theorem line_any (L : List UInt8) (at_ : Option Nat) (b : List UInt8) (w : World) (h : Ln L at_ b) (hl : L.length ≤ 2000) :
    Calls Tryd.prog 22 #[.string (bstr L)] w fun e w' => e = .returned (.tuple #[.int .i64 (atI at_), .string (bstr b), .int .i64 0, .bool true]) ∧ Below w.heap.size w w' := by
  obtain ⟨B, hB⟩ : ∃ B, B = w.heap.size := ⟨_, rfl⟩
  rw [← hB]
  have HB := Lib.hid hB; clear hB
  cases h with
  | @plain r b hno ht hs0 =>
    have HT := Lib.hid ht; have HS0 := Lib.hid hs0; have HD : Hid (L.drop 0 = L) := Lib.hid rfl
    have hix : Lib.indexByte (bstr L).data.toList (58 : Int).toNat.toUInt8 = -1 := indexByte_no L 58 hno
    have HIX := Lib.hid (fun w => (Tryd.strings_IndexByte (bstr L) 58 w))
    rw [hix] at HIX
    clear ht hs0 hno hix
    have r : List UInt8 := L
    go_enter Tryd.func22, Tryd.ntmps22
    go_wp2_with fail
    refine (HIX.out _).mono ?_
    rintro e w ⟨rfl, rfl⟩
    go_wp2_with fail
    go_loopw [11, 12] (fun v11 v12 wr => ∃ (i n cap : Nat) (a : Option Addr) (rest o acc : List UInt8), 0 ≤ i ∧ i ≤ L.length ∧ v12 = .int .i64 i ∧ v11 = .slice a n cap ∧ n ≤ i ∧ Hid (Owns wr B 5 1 a n cap (bvals acc)) ∧ Hid (L.drop i = rest ∧ Toks rest o ∧ acc ++ o = b ∧ acc.length = n ∧ (i = 0 → rest.take 2 ≠ [32, 32])) ∧ Below B w wr) (fun _ v12 _ => L.length - (intOf v12).toNat)
    case atStart => exact ⟨0, 0, 0, none, L, b, [], by omega, by omega, rfl, rfl, by omega, Lib.hid (Owns.nil _ _ _ _), Lib.hid ⟨HD.out, HT.out, rfl, rfl, fun _ => HS0.out⟩, Below.refl _ _⟩
    case round =>
      obtain ⟨i, n, cap, a, rest, o, acc, hfi, hi, rfl, rfl, hni, HO, HS, hbe⟩ := hrel
      have hbB : B ≤ wr.heap.size := by have := hbe.size; have := HB.out; omega
      obtain ⟨hdr, hrd, hacc, han, hst⟩ := HS.out
      cases hrd with
      | nil =>
        have hiL : i = L.length := by
          have := congrArg List.length hdr
          simp at this
          omega
        subst hiL
        rw [List.append_nil] at hacc
        have hd : decide ((L.length : Int) < (L.length : Int)) = false := by simp
        have hcv := fun q => conv_own (show (wr.drewN q).ownsRow B 5 1 (.slice a n cap) n (bvals b) from hacc ▸ HO.out.drewN q)
        clear hst hdr han hacc
        go_wp2_with fail
        go_quiet (fail)
        go_wp2_with fail
        exact bodyPost_ret (v := .tuple #[.int .i64 (-1), .string (bstr b), .int .i64 0, .bool true]) (by simp [results, Tryd.results22, go_sem]) rfl ⟨rfl, bdrewN hbe _⟩
      | stop r2 =>
        obtain ⟨q1, q2, q3⟩ := drop_at' hdr
        obtain ⟨p1, p2, p3⟩ := drop_at' q3
        have hne : 0 < i := by
          rcases Nat.lt_or_ge 0 i with h | h
          · exact h
          · exact absurd rfl (hst (by omega))
        rw [List.append_nil] at hacc
        have hcx : ∀ h : i < (bstr L).size, ((bstr L)[i]'h).toNat = 32 := fun h => by rw [bstr_at', q2]; rfl
        have hdx : ∀ h : i + 1 < (bstr L).size, ((bstr L)[i + 1]'h).toNat = 32 := fun h => by rw [bstr_at', p2]; rfl
        have d1 : decide ((i : Int) < (L.length : Int)) = true := by rw [decide_eq_true_eq]; omega
        have d2 : decide ((i : Int) + 1 < (L.length : Int)) = true := by rw [decide_eq_true_eq]; omega
        have d3 : decide (((0 : Nat) : Int) < (i : Int)) = true := by rw [decide_eq_true_eq]; omega
        have d4 : decide ((0 : Int) < (i : Int)) = true := by rw [decide_eq_true_eq]; omega
        have d5 : decide (0 < i) = true := by rw [decide_eq_true_eq]; omega
        have i1 : ((i : Int) + 1).toNat = i + 1 := by omega
        have hki : (i : Int) < (L.length : Int) := by omega
        have hki1 : (i : Int) + 1 < (L.length : Int) := by omega
        have hcv := fun q => conv_own (show (wr.drewN q).ownsRow B 5 1 (.slice a n cap) n (bvals b) from hacc ▸ HO.out.drewN q)
        clear hst hdr han hacc q2 q3 p2 p3
        go_wp2_with fail
        go_quiet (fail)
        go_wp2_with fail
        exact bodyPost_ret (v := .tuple #[.int .i64 (-1), .string (bstr b), .int .i64 0, .bool true]) (by simp [results, Tryd.results22, go_sem]) rfl ⟨rfl, bdrewN hbe _⟩
      | @blank r2 _ hnb hrd' =>
        obtain ⟨q1, q2, q3⟩ := drop_at' hdr
        have hcx : ∀ h : i < (bstr L).size, ((bstr L)[i]'h).toNat = 32 := fun h => by rw [bstr_at', q2]; rfl
        have d1 : decide ((i : Int) < (L.length : Int)) = true := by rw [decide_eq_true_eq]; omega
        have hki : (i : Int) < (L.length : Int) := by omega
        have HQ := Lib.hid q3
        have HNB := Lib.hid hnb
        have hnx : L.getD (i + 1) 0 ≠ 32 := by
          have : L.getD (i + 1) 0 = r2.getD 0 0 := by rw [← q3, List.getD_eq_getElem?_getD, List.getD_eq_getElem?_getD, List.getElem?_drop, Nat.add_zero]
          rw [this]; exact hnb
        have HNX := Lib.hid hnx
        clear hst hdr q2 q3 hnb hnx
        have hns : (i + 1 = 0 → r2.take 2 ≠ [32, 32]) := by intro h; omega
        by_cases h1 : i + 1 < L.length
        · have d2 : decide ((i : Int) + 1 < (L.length : Int)) = true := by rw [decide_eq_true_eq]; omega
          have hki1 : (i : Int) + 1 < (L.length : Int) := by omega
          have i1 : ((i : Int) + 1).toNat = i + 1 := by omega
          have hdx : ∀ h : i + 1 < (bstr L).size, ((bstr L)[i + 1]'h).toNat = (L.getD (i + 1) 0).toNat := fun h => by rw [bstr_at']
          have hne : (((L.getD (i + 1) 0).toNat : Int) == 32) = false := by
            rw [beq_eq_false_iff_ne]
            intro e
            exact HNX.out (UInt8.toNat_inj.mp (by show _ = 32; omega))
          generalize (L.getD (i + 1) 0).toNat = y at *
          go_wp2_with fail
          go_roundw
          case rel => exact ⟨i + 1, n, cap, a, r2, o, acc, by omega, by omega, by go_num, rfl, by omega, HO, Lib.hid ⟨HQ.out, hrd', hacc, han, hns⟩, hbe⟩
          case measure => simp [intOf]; omega
        · have d2 : decide ((i : Int) + 1 < (L.length : Int)) = false := by rw [decide_eq_false_iff_not]; omega
          clear h1
          go_wp2_with fail
          go_roundw
          case rel => exact ⟨i + 1, n, cap, a, r2, o, acc, by omega, by omega, by go_num, rfl, by omega, HO, Lib.hid ⟨HQ.out, hrd', hacc, han, hns⟩, hbe⟩
          case measure => simp [intOf]; omega
      | @byte c d h k r' o' hc hh hk hrd' =>
        obtain ⟨q1, q2, q3⟩ := drop_at' hdr
        obtain ⟨p1, p2, p3⟩ := drop_at' q3
        have hh16 := dig_lt' hh
        have hk16 := dig_lt' hk
        have hcx : ∀ h : i < (bstr L).size, ((bstr L)[i]'h).toNat = c.toNat := fun h => by rw [bstr_at', q2]
        have hdx : ∀ h : i + 1 < (bstr L).size, ((bstr L)[i + 1]'h).toNat = d.toNat := fun h => by rw [bstr_at', p2]
        have hc32 : c.toNat ≠ 32 := fun h => hc (UInt8.toNat_inj.mp h)
        have hc8 : c.toNat < 256 := UInt8.toNat_lt _
        have hd8 : d.toNat < 256 := UInt8.toNat_lt _
        clear q2 p2 hc hst hdr
        generalize c.toNat = x at *
        generalize d.toNat = y at *
        have hx32 : ((x : Int) == 32) = false := by rw [beq_eq_false_iff_ne]; omega
        have HDX := Lib.hid (fun w => Digit_any x w hc8)
        have HDY := Lib.hid (fun w => Digit_any y w hd8)
        rw [hh] at HDX
        rw [hk] at HDY
        clear hh hk hc32
        have d1 : decide ((i : Int) < (L.length : Int)) = true := by rw [decide_eq_true_eq]; omega
        have d2 : decide ((i : Int) + 1 < (L.length : Int)) = true := by rw [decide_eq_true_eq]; omega
        have d3 : decide ((h : Int) < 0) = false := by rw [decide_eq_false_iff_not]; omega
        have d4 : decide ((k : Int) < 0) = false := by rw [decide_eq_false_iff_not]; omega
        have hki : (i : Int) < (L.length : Int) := by omega
        have hki1 : (i : Int) + 1 < (L.length : Int) := by omega
        have i1 : ((i : Int) + 1).toNat = i + 1 := by omega
        have HP := Lib.hid p3; clear p3 q3
        have hor := or16' h k hh16 hk16
        generalize UInt8.ofNat (16 * h + k) = z at *
        have hcs : (n + 1) * 1 ≤ 140737488355328 := by omega
        have hml : n + 1 ≤ maxLen := by unfold maxLen; omega
        have hns : (i + 2 = 0 → r'.take 2 ≠ [32, 32]) := by intro h; omega
        go_wp2_with fail
        refine (HDX.out _).mono ?_
        rintro e w1 ⟨rfl, rfl⟩
        go_wp2_with fail
        refine (HDY.out _).mono ?_
        rintro e w1 ⟨rfl, rfl⟩
        go_wp2_with (with_reducible refine wpList_push _ rfl _ _ 41 rfl B 5 (.int .u8 0) 1 1 Tryd.underlying41 infoU8 rfl (by decide) a n cap _ rfl HO.out [.int .u8 (z.toNat : Int)] rfl (by simp [Value.oneCell']) rfl hml hcs hbB ?_; intro a' cap' w' hown' hgrow hloc hsz' hex)
        go_roundw
        case rel =>
          refine ⟨i + 2, n + 1, cap', a', r', o', acc ++ [z], by omega, by omega, by go_num, rfl, by omega, ?_, Lib.hid ⟨HP.out, hrd', by rw [← hacc]; simp, by simp [han], hns⟩, below_blk hbe HO.out (Nat.le_refl _) hbB hgrow⟩
          have he : bvals acc ++ [Value.int .u8 (z.toNat : Int)] = bvals (acc ++ [z]) := by simp [bvals, bval]
          rw [← he]; exact Lib.hid hown'
        case measure => simp [intOf]; omega
  | @placed r b nn hn ht hs0 =>
    obtain ⟨L, hL⟩ : ∃ L, L = Digits.ds 16 nn 8 ++ 58 :: r := ⟨_, rfl⟩
    rw [← hL] at hl ⊢
    have hd8 : (Digits.ds 16 nn 8).length = 8 := Digits.ds_length 16 nn 8
    have htd := take_drop8 (Digits.ds 16 nn 8) r 58 8 hd8
    rw [← hL] at htd
    have HT := Lib.hid ht; have HS0 := Lib.hid hs0; have HD : Hid (L.drop 9 = r) := Lib.hid htd.2
    have hix : Lib.indexByte (bstr L).data.toList (58 : Int).toNat.toUInt8 = 8 := by
      have := indexByte_at (Digits.ds 16 nn 8) 58 r (ds_no 58 (.inr rfl) nn 8)
      rw [← hL, hd8] at this
      exact this
    have HIX := Lib.hid (fun w => (Tryd.strings_IndexByte (bstr L) 58 w))
    rw [hix] at HIX
    have hle : 9 ≤ L.length := by rw [hL, List.length_append, hd8, List.length_cons]; omega
    have hpn : Num.parseOf 16 (Digits.ds 16 nn 8) = .inl nn := by
      unfold Num.parseOf
      have hv := Num.val_ds 16 nn (by decide) (by decide) 8
      rw [Nat.mod_eq_of_lt (by omega)] at hv
      have hall : (Digits.ds 16 nn 8).all (Num.okDig 16) = true := by
        rw [List.all_eq_true]
        intro c hc
        unfold Digits.ds at hc
        rw [List.mem_reverse, List.mem_map] at hc
        obtain ⟨i, _, rfl⟩ := hc
        exact (by decide : ∀ d : Fin 16, Num.okDig 16 (UInt8.ofNat (Digits.fig d)) = true) ⟨_, Digits.dg_lt 16 nn i (by decide)⟩
      rw [if_neg (by intro e; rw [e] at hd8; cases hd8), if_pos hall, hv, if_pos (by omega)]
    have HP := Lib.hid (fun w => ParseN_any (Digits.ds 16 nn 8) 16 w (by decide) (by decide) (by rw [hd8]; omega))
    rw [hpn, show Num.parsed (.inl nn) = #[.int .u64 (nn : Nat), .nilIface] from rfl] at HP
    have hcut : (bstr L).extract 0 8 = bstr (Digits.ds 16 nn 8) := by
      rw [← htd.1]
      apply ByteArray.ext
      apply Array.ext'
      rw [ByteArray.data_extract, Array.toList_extract]
      rfl
    have hcw : IntKind.i64.wrap (nn : Int) = (nn : Int) := by rw [IntKind.wrap_i64]; omega
    have dn : decide ((4000 : Int) < (nn : Int)) = false := decide_eq_false (by omega)
    have h8 : (8 : Int) ≤ (L.length : Int) := by omega
    clear ht hs0 hix htd hpn hL
    generalize Digits.ds 16 nn 8 = P8 at *
    go_enter Tryd.func22, Tryd.ntmps22
    go_wp2_with fail
    refine (HIX.out _).mono ?_
    rintro e w ⟨rfl, rfl⟩
    go_wp2_with fail
    refine (HP.out _).mono ?_
    rintro e w1 ⟨rfl, rfl⟩
    go_wp2_with fail
    go_loopw [11, 12] (fun v11 v12 wr => ∃ (i n cap : Nat) (a : Option Addr) (rest o acc : List UInt8), 9 ≤ i ∧ i ≤ L.length ∧ v12 = .int .i64 i ∧ v11 = .slice a n cap ∧ n ≤ i ∧ Hid (Owns wr B 5 1 a n cap (bvals acc)) ∧ Hid (L.drop i = rest ∧ Toks rest o ∧ acc ++ o = b ∧ acc.length = n ∧ (i = 9 → rest.take 2 ≠ [32, 32])) ∧ Below B w wr) (fun _ v12 _ => L.length - (intOf v12).toNat)
    case atStart => exact ⟨9, 0, 0, none, r, b, [], by omega, by omega, rfl, rfl, by omega, Lib.hid (Owns.nil _ _ _ _), Lib.hid ⟨HD.out, HT.out, rfl, rfl, fun _ => HS0.out⟩, Below.refl _ _⟩
    case round =>
      obtain ⟨i, n, cap, a, rest, o, acc, hfi, hi, rfl, rfl, hni, HO, HS, hbe⟩ := hrel
      have hbB : B ≤ wr.heap.size := by have := hbe.size; have := HB.out; omega
      obtain ⟨hdr, hrd, hacc, han, hst⟩ := HS.out
      cases hrd with
      | nil =>
        have hiL : i = L.length := by
          have := congrArg List.length hdr
          simp at this
          omega
        subst hiL
        rw [List.append_nil] at hacc
        have hd : decide ((L.length : Int) < (L.length : Int)) = false := by simp
        have hcv := fun q => conv_own (show (wr.drewN q).ownsRow B 5 1 (.slice a n cap) n (bvals b) from hacc ▸ HO.out.drewN q)
        clear hst hdr han hacc
        go_wp2_with fail
        go_quiet (fail)
        go_wp2_with fail
        exact bodyPost_ret (v := .tuple #[.int .i64 (nn : Nat), .string (bstr b), .int .i64 0, .bool true]) (by simp [results, Tryd.results22, go_sem]) rfl ⟨rfl, bdrewN hbe _⟩
      | stop r2 =>
        obtain ⟨q1, q2, q3⟩ := drop_at' hdr
        obtain ⟨p1, p2, p3⟩ := drop_at' q3
        have hne : 9 < i := by
          rcases Nat.lt_or_ge 9 i with h | h
          · exact h
          · exact absurd rfl (hst (by omega))
        rw [List.append_nil] at hacc
        have hcx : ∀ h : i < (bstr L).size, ((bstr L)[i]'h).toNat = 32 := fun h => by rw [bstr_at', q2]; rfl
        have hdx : ∀ h : i + 1 < (bstr L).size, ((bstr L)[i + 1]'h).toNat = 32 := fun h => by rw [bstr_at', p2]; rfl
        have d1 : decide ((i : Int) < (L.length : Int)) = true := by rw [decide_eq_true_eq]; omega
        have d2 : decide ((i : Int) + 1 < (L.length : Int)) = true := by rw [decide_eq_true_eq]; omega
        have d3 : decide (((9 : Nat) : Int) < (i : Int)) = true := by rw [decide_eq_true_eq]; omega
        have d4 : decide ((9 : Int) < (i : Int)) = true := by rw [decide_eq_true_eq]; omega
        have d5 : decide (9 < i) = true := by rw [decide_eq_true_eq]; omega
        have i1 : ((i : Int) + 1).toNat = i + 1 := by omega
        have hki : (i : Int) < (L.length : Int) := by omega
        have hki1 : (i : Int) + 1 < (L.length : Int) := by omega
        have hcv := fun q => conv_own (show (wr.drewN q).ownsRow B 5 1 (.slice a n cap) n (bvals b) from hacc ▸ HO.out.drewN q)
        clear hst hdr han hacc q2 q3 p2 p3
        go_wp2_with fail
        go_quiet (fail)
        go_wp2_with fail
        exact bodyPost_ret (v := .tuple #[.int .i64 (nn : Nat), .string (bstr b), .int .i64 0, .bool true]) (by simp [results, Tryd.results22, go_sem]) rfl ⟨rfl, bdrewN hbe _⟩
      | @blank r2 _ hnb hrd' =>
        obtain ⟨q1, q2, q3⟩ := drop_at' hdr
        have hcx : ∀ h : i < (bstr L).size, ((bstr L)[i]'h).toNat = 32 := fun h => by rw [bstr_at', q2]; rfl
        have d1 : decide ((i : Int) < (L.length : Int)) = true := by rw [decide_eq_true_eq]; omega
        have hki : (i : Int) < (L.length : Int) := by omega
        have HQ := Lib.hid q3
        have HNB := Lib.hid hnb
        have hnx : L.getD (i + 1) 0 ≠ 32 := by
          have : L.getD (i + 1) 0 = r2.getD 0 0 := by rw [← q3, List.getD_eq_getElem?_getD, List.getD_eq_getElem?_getD, List.getElem?_drop, Nat.add_zero]
          rw [this]; exact hnb
        have HNX := Lib.hid hnx
        clear hst hdr q2 q3 hnb hnx
        have hns : (i + 1 = 9 → r2.take 2 ≠ [32, 32]) := by intro h; omega
        by_cases h1 : i + 1 < L.length
        · have d2 : decide ((i : Int) + 1 < (L.length : Int)) = true := by rw [decide_eq_true_eq]; omega
          have hki1 : (i : Int) + 1 < (L.length : Int) := by omega
          have i1 : ((i : Int) + 1).toNat = i + 1 := by omega
          have hdx : ∀ h : i + 1 < (bstr L).size, ((bstr L)[i + 1]'h).toNat = (L.getD (i + 1) 0).toNat := fun h => by rw [bstr_at']
          have hne : (((L.getD (i + 1) 0).toNat : Int) == 32) = false := by
            rw [beq_eq_false_iff_ne]
            intro e
            exact HNX.out (UInt8.toNat_inj.mp (by show _ = 32; omega))
          generalize (L.getD (i + 1) 0).toNat = y at *
          go_wp2_with fail
          go_roundw
          case rel => exact ⟨i + 1, n, cap, a, r2, o, acc, by omega, by omega, by go_num, rfl, by omega, HO, Lib.hid ⟨HQ.out, hrd', hacc, han, hns⟩, hbe⟩
          case measure => simp [intOf]; omega
        · have d2 : decide ((i : Int) + 1 < (L.length : Int)) = false := by rw [decide_eq_false_iff_not]; omega
          clear h1
          go_wp2_with fail
          go_roundw
          case rel => exact ⟨i + 1, n, cap, a, r2, o, acc, by omega, by omega, by go_num, rfl, by omega, HO, Lib.hid ⟨HQ.out, hrd', hacc, han, hns⟩, hbe⟩
          case measure => simp [intOf]; omega
      | @byte c d h k r' o' hc hh hk hrd' =>
        obtain ⟨q1, q2, q3⟩ := drop_at' hdr
        obtain ⟨p1, p2, p3⟩ := drop_at' q3
        have hh16 := dig_lt' hh
        have hk16 := dig_lt' hk
        have hcx : ∀ h : i < (bstr L).size, ((bstr L)[i]'h).toNat = c.toNat := fun h => by rw [bstr_at', q2]
        have hdx : ∀ h : i + 1 < (bstr L).size, ((bstr L)[i + 1]'h).toNat = d.toNat := fun h => by rw [bstr_at', p2]
        have hc32 : c.toNat ≠ 32 := fun h => hc (UInt8.toNat_inj.mp h)
        have hc8 : c.toNat < 256 := UInt8.toNat_lt _
        have hd8 : d.toNat < 256 := UInt8.toNat_lt _
        clear q2 p2 hc hst hdr
        generalize c.toNat = x at *
        generalize d.toNat = y at *
        have hx32 : ((x : Int) == 32) = false := by rw [beq_eq_false_iff_ne]; omega
        have HDX := Lib.hid (fun w => Digit_any x w hc8)
        have HDY := Lib.hid (fun w => Digit_any y w hd8)
        rw [hh] at HDX
        rw [hk] at HDY
        clear hh hk hc32
        have d1 : decide ((i : Int) < (L.length : Int)) = true := by rw [decide_eq_true_eq]; omega
        have d2 : decide ((i : Int) + 1 < (L.length : Int)) = true := by rw [decide_eq_true_eq]; omega
        have d3 : decide ((h : Int) < 0) = false := by rw [decide_eq_false_iff_not]; omega
        have d4 : decide ((k : Int) < 0) = false := by rw [decide_eq_false_iff_not]; omega
        have hki : (i : Int) < (L.length : Int) := by omega
        have hki1 : (i : Int) + 1 < (L.length : Int) := by omega
        have i1 : ((i : Int) + 1).toNat = i + 1 := by omega
        have HP := Lib.hid p3; clear p3 q3
        have hor := or16' h k hh16 hk16
        generalize UInt8.ofNat (16 * h + k) = z at *
        have hcs : (n + 1) * 1 ≤ 140737488355328 := by omega
        have hml : n + 1 ≤ maxLen := by unfold maxLen; omega
        have hns : (i + 2 = 9 → r'.take 2 ≠ [32, 32]) := by intro h; omega
        go_wp2_with fail
        refine (HDX.out _).mono ?_
        rintro e w1 ⟨rfl, rfl⟩
        go_wp2_with fail
        refine (HDY.out _).mono ?_
        rintro e w1 ⟨rfl, rfl⟩
        go_wp2_with (with_reducible refine wpList_push _ rfl _ _ 41 rfl B 5 (.int .u8 0) 1 1 Tryd.underlying41 infoU8 rfl (by decide) a n cap _ rfl HO.out [.int .u8 (z.toNat : Int)] rfl (by simp [Value.oneCell']) rfl hml hcs hbB ?_; intro a' cap' w' hown' hgrow hloc hsz' hex)
        go_roundw
        case rel =>
          refine ⟨i + 2, n + 1, cap', a', r', o', acc ++ [z], by omega, by omega, by go_num, rfl, by omega, ?_, Lib.hid ⟨HP.out, hrd', by rw [← hacc]; simp, by simp [han], hns⟩, below_blk hbe HO.out (Nat.le_refl _) hbB hgrow⟩
          have he : bvals acc ++ [Value.int .u8 (z.toNat : Int)] = bvals (acc ++ [z]) := by simp [bvals, bval]
          rw [← he]; exact Lib.hid hown'
        case measure => simp [intOf]; omega
end Go.Proofs.YtenhblpegobbjaaDoor
